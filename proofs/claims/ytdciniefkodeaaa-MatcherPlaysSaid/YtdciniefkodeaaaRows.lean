/-
  No cell of these rows narrows 'for every input' (looked for: loops, veiled, ifaces, maps, wideKeys, modest, calm, conditions, laid).
  DERIVED. THE GIVEN ROWS OF THIS SEAT. 13 by the template 'for every input the law returns true; each argument reads behind the call as it read before'; 0 by the template 'total and deterministic' (their statements: YtdciniefkodeaaaTotals.lean).
  GIVEN WITH THE SEED: the statements are not yours to turn. If you find one false, say at which input.
  Laid BY PROGRAM, IN A SANDBOX (cutbox-rows.mjs): the forced cells as the released guide's own fill.sh prints them over the translation 96813e0fe0b9910c… (all of the seat's roots in one cut). By AI agents, Wed Nov 11 2026. No macro, syntax, notation, axiom, sorry.
-/
import Derived.Test.YtdciniefkodeaaaChecked
import GoSem.Claim
import GoSem.ClaimJoined
import GoSem.ClaimMapViews
import Derived.JoinedTies
import Derived.KernelRfl
namespace Go.Proofs.Ytdciniefkodeaaa
/- THE CELL 'sum', in the pinned program and in every row, IS THE sha256 OF THE DUMP (.gsa) THAT YtdciniefkodeaaaProg.lean LOADS. Nothing in Lean hashes anything: it is a label: what it is worth is what the hold of that sum in a sandbox is worth. -/
noncomputable def Try.pinned : Pinned := { name := "ytdciniefkodeaaa", sum := "96813e0fe0b9910c9eae5cd6f390ef7dfc270402f5ce779b33b2905d7c3c127a", checked := Try.checked }
namespace Rows
def none {H : Type} : Left H := { results := [], args := [] }

/-- 'winklelaw06.PatternsChecks': WHATEVER THE INPUT: true; the input reads as it did. -/
def patternsChecksSpec : ChangeSpec := { name := "patternsChecks", fn := fun _ => fun
  | [d] => { results := [.lit (.bool true)], args := [d] }
  | _ => none }
def patternsChecksRow : OpenClaim := { program := "ytdciniefkodeaaa", sum := "96813e0fe0b9910c9eae5cd6f390ef7dfc270402f5ce779b33b2905d7c3c127a", func := "winkle/winklelaw06.PatternsChecks", spec := "patternsChecks", unfollowed := true, recurses := true, plainKeys := false, apart := false }
def PatternsChecksSaid : Prop := patternsChecksRow.holds Try.pinned (OpenSpec.ofChange patternsChecksSpec)

/-- ITS FALSE NEIGHBOUR: 'it returns false'. Refute it at one input. -/
def patternsChecksWrong : ChangeSpec := { name := "patternsChecks", fn := fun _ => fun
  | [d] => { results := [.lit (.bool false)], args := [d] }
  | _ => none }
def PatternsChecksWrongFalsely : Prop := patternsChecksRow.holds Try.pinned (OpenSpec.ofChange patternsChecksWrong)

/-- 'winklelaw06.PatternsOuts': WHATEVER THE INPUT: true; the input reads as it did. -/
def patternsOutsSpec : ChangeSpec := { name := "patternsOuts", fn := fun _ => fun
  | [d1, d2] => { results := [.lit (.bool true)], args := [d1, d2] }
  | _ => none }
def patternsOutsRow : OpenClaim := { program := "ytdciniefkodeaaa", sum := "96813e0fe0b9910c9eae5cd6f390ef7dfc270402f5ce779b33b2905d7c3c127a", func := "winkle/winklelaw06.PatternsOuts", spec := "patternsOuts", unfollowed := true, recurses := true, plainKeys := false, apart := false }
def PatternsOutsSaid : Prop := patternsOutsRow.holds Try.pinned (OpenSpec.ofChange patternsOutsSpec)

/-- ITS FALSE NEIGHBOUR: 'it returns false'. Refute it at one input. -/
def patternsOutsWrong : ChangeSpec := { name := "patternsOuts", fn := fun _ => fun
  | [d1, d2] => { results := [.lit (.bool false)], args := [d1, d2] }
  | _ => none }
def PatternsOutsWrongFalsely : Prop := patternsOutsRow.holds Try.pinned (OpenSpec.ofChange patternsOutsWrong)

/-- 'winklelaw06.PatternsFails': WHATEVER THE INPUT: true; the input reads as it did. -/
def patternsFailsSpec : ChangeSpec := { name := "patternsFails", fn := fun _ => fun
  | [d] => { results := [.lit (.bool true)], args := [d] }
  | _ => none }
def patternsFailsRow : OpenClaim := { program := "ytdciniefkodeaaa", sum := "96813e0fe0b9910c9eae5cd6f390ef7dfc270402f5ce779b33b2905d7c3c127a", func := "winkle/winklelaw06.PatternsFails", spec := "patternsFails", unfollowed := true, recurses := true, plainKeys := false, apart := false }
def PatternsFailsSaid : Prop := patternsFailsRow.holds Try.pinned (OpenSpec.ofChange patternsFailsSpec)

/-- ITS FALSE NEIGHBOUR: 'it returns false'. Refute it at one input. -/
def patternsFailsWrong : ChangeSpec := { name := "patternsFails", fn := fun _ => fun
  | [d] => { results := [.lit (.bool false)], args := [d] }
  | _ => none }
def PatternsFailsWrongFalsely : Prop := patternsFailsRow.holds Try.pinned (OpenSpec.ofChange patternsFailsWrong)

/-- 'winklelaw06.PatternsTurned': WHATEVER THE INPUT: true; the input reads as it did. -/
def patternsTurnedSpec : ChangeSpec := { name := "patternsTurned", fn := fun _ => fun
  | [d1, d2, d3] => { results := [.lit (.bool true)], args := [d1, d2, d3] }
  | _ => none }
def patternsTurnedRow : OpenClaim := { program := "ytdciniefkodeaaa", sum := "96813e0fe0b9910c9eae5cd6f390ef7dfc270402f5ce779b33b2905d7c3c127a", func := "winkle/winklelaw06.PatternsTurned", spec := "patternsTurned", unfollowed := true, recurses := true, plainKeys := false, apart := false }
def PatternsTurnedSaid : Prop := patternsTurnedRow.holds Try.pinned (OpenSpec.ofChange patternsTurnedSpec)

/-- ITS FALSE NEIGHBOUR: 'it returns false'. Refute it at one input. -/
def patternsTurnedWrong : ChangeSpec := { name := "patternsTurned", fn := fun _ => fun
  | [d1, d2, d3] => { results := [.lit (.bool false)], args := [d1, d2, d3] }
  | _ => none }
def PatternsTurnedWrongFalsely : Prop := patternsTurnedRow.holds Try.pinned (OpenSpec.ofChange patternsTurnedWrong)

/-- 'winklelaw06.PatternsWords': WHATEVER THE INPUT: true; the input reads as it did. -/
def patternsWordsSpec : ChangeSpec := { name := "patternsWords", fn := fun _ => fun
  | [d1, d2] => { results := [.lit (.bool true)], args := [d1, d2] }
  | _ => none }
def patternsWordsRow : OpenClaim := { program := "ytdciniefkodeaaa", sum := "96813e0fe0b9910c9eae5cd6f390ef7dfc270402f5ce779b33b2905d7c3c127a", func := "winkle/winklelaw06.PatternsWords", spec := "patternsWords", unfollowed := true, recurses := true, plainKeys := false, apart := false }
def PatternsWordsSaid : Prop := patternsWordsRow.holds Try.pinned (OpenSpec.ofChange patternsWordsSpec)

/-- ITS FALSE NEIGHBOUR: 'it returns false'. Refute it at one input. -/
def patternsWordsWrong : ChangeSpec := { name := "patternsWords", fn := fun _ => fun
  | [d1, d2] => { results := [.lit (.bool false)], args := [d1, d2] }
  | _ => none }
def PatternsWordsWrongFalsely : Prop := patternsWordsRow.holds Try.pinned (OpenSpec.ofChange patternsWordsWrong)

/-- 'winklelaw07.MatcherAll': WHATEVER THE INPUT: true; the input reads as it did. -/
def matcherAllSpec : ChangeSpec := { name := "matcherAll", fn := fun _ => fun
  | [d1, d2, d3] => { results := [.lit (.bool true)], args := [d1, d2, d3] }
  | _ => none }
def matcherAllRow : OpenClaim := { program := "ytdciniefkodeaaa", sum := "96813e0fe0b9910c9eae5cd6f390ef7dfc270402f5ce779b33b2905d7c3c127a", func := "winkle/winklelaw07.MatcherAll", spec := "matcherAll", unfollowed := true, recurses := true, plainKeys := false, apart := false }
def MatcherAllSaid : Prop := matcherAllRow.holds Try.pinned (OpenSpec.ofChange matcherAllSpec)

/-- ITS FALSE NEIGHBOUR: 'it returns false'. Refute it at one input. -/
def matcherAllWrong : ChangeSpec := { name := "matcherAll", fn := fun _ => fun
  | [d1, d2, d3] => { results := [.lit (.bool false)], args := [d1, d2, d3] }
  | _ => none }
def MatcherAllWrongFalsely : Prop := matcherAllRow.holds Try.pinned (OpenSpec.ofChange matcherAllWrong)

/-- 'winklelaw07.MatcherCaps': WHATEVER THE INPUT: true; the input reads as it did. -/
def matcherCapsSpec : ChangeSpec := { name := "matcherCaps", fn := fun _ => fun
  | [d1, d2, d3] => { results := [.lit (.bool true)], args := [d1, d2, d3] }
  | _ => none }
def matcherCapsRow : OpenClaim := { program := "ytdciniefkodeaaa", sum := "96813e0fe0b9910c9eae5cd6f390ef7dfc270402f5ce779b33b2905d7c3c127a", func := "winkle/winklelaw07.MatcherCaps", spec := "matcherCaps", unfollowed := true, recurses := true, plainKeys := false, apart := false }
def MatcherCapsSaid : Prop := matcherCapsRow.holds Try.pinned (OpenSpec.ofChange matcherCapsSpec)

/-- ITS FALSE NEIGHBOUR: 'it returns false'. Refute it at one input. -/
def matcherCapsWrong : ChangeSpec := { name := "matcherCaps", fn := fun _ => fun
  | [d1, d2, d3] => { results := [.lit (.bool false)], args := [d1, d2, d3] }
  | _ => none }
def MatcherCapsWrongFalsely : Prop := matcherCapsRow.holds Try.pinned (OpenSpec.ofChange matcherCapsWrong)

/-- 'winklelaw06.PatternsBuilds': WHATEVER THE INPUT: true; the input reads as it did. -/
def patternsBuildsSpec : ChangeSpec := { name := "patternsBuilds", fn := fun _ => fun
  | [d1, d2] => { results := [.lit (.bool true)], args := [d1, d2] }
  | _ => none }
def patternsBuildsRow : OpenClaim := { program := "ytdciniefkodeaaa", sum := "96813e0fe0b9910c9eae5cd6f390ef7dfc270402f5ce779b33b2905d7c3c127a", func := "winkle/winklelaw06.PatternsBuilds", spec := "patternsBuilds", unfollowed := true, recurses := true, plainKeys := false, apart := false }
def PatternsBuildsSaid : Prop := patternsBuildsRow.holds Try.pinned (OpenSpec.ofChange patternsBuildsSpec)

/-- ITS FALSE NEIGHBOUR: 'it returns false'. Refute it at one input. -/
def patternsBuildsWrong : ChangeSpec := { name := "patternsBuilds", fn := fun _ => fun
  | [d1, d2] => { results := [.lit (.bool false)], args := [d1, d2] }
  | _ => none }
def PatternsBuildsWrongFalsely : Prop := patternsBuildsRow.holds Try.pinned (OpenSpec.ofChange patternsBuildsWrong)

/-- 'winklelaw06.PatternsNobody': WHATEVER THE INPUT: true; the input reads as it did. -/
def patternsNobodySpec : ChangeSpec := { name := "patternsNobody", fn := fun _ => fun
  | [d1, d2] => { results := [.lit (.bool true)], args := [d1, d2] }
  | _ => none }
def patternsNobodyRow : OpenClaim := { program := "ytdciniefkodeaaa", sum := "96813e0fe0b9910c9eae5cd6f390ef7dfc270402f5ce779b33b2905d7c3c127a", func := "winkle/winklelaw06.PatternsNobody", spec := "patternsNobody", unfollowed := true, recurses := true, plainKeys := false, apart := false }
def PatternsNobodySaid : Prop := patternsNobodyRow.holds Try.pinned (OpenSpec.ofChange patternsNobodySpec)

/-- ITS FALSE NEIGHBOUR: 'it returns false'. Refute it at one input. -/
def patternsNobodyWrong : ChangeSpec := { name := "patternsNobody", fn := fun _ => fun
  | [d1, d2] => { results := [.lit (.bool false)], args := [d1, d2] }
  | _ => none }
def PatternsNobodyWrongFalsely : Prop := patternsNobodyRow.holds Try.pinned (OpenSpec.ofChange patternsNobodyWrong)

/-- 'winklelaw07.MatcherFinds': WHATEVER THE INPUT: true; the input reads as it did. -/
def matcherFindsSpec : ChangeSpec := { name := "matcherFinds", fn := fun _ => fun
  | [d1, d2] => { results := [.lit (.bool true)], args := [d1, d2] }
  | _ => none }
def matcherFindsRow : OpenClaim := { program := "ytdciniefkodeaaa", sum := "96813e0fe0b9910c9eae5cd6f390ef7dfc270402f5ce779b33b2905d7c3c127a", func := "winkle/winklelaw07.MatcherFinds", spec := "matcherFinds", unfollowed := true, recurses := true, plainKeys := false, apart := false }
def MatcherFindsSaid : Prop := matcherFindsRow.holds Try.pinned (OpenSpec.ofChange matcherFindsSpec)

/-- ITS FALSE NEIGHBOUR: 'it returns false'. Refute it at one input. -/
def matcherFindsWrong : ChangeSpec := { name := "matcherFinds", fn := fun _ => fun
  | [d1, d2] => { results := [.lit (.bool false)], args := [d1, d2] }
  | _ => none }
def MatcherFindsWrongFalsely : Prop := matcherFindsRow.holds Try.pinned (OpenSpec.ofChange matcherFindsWrong)

/-- 'winklelaw07.MatcherSplits': WHATEVER THE INPUT: true; the input reads as it did. -/
def matcherSplitsSpec : ChangeSpec := { name := "matcherSplits", fn := fun _ => fun
  | [d1, d2, d3] => { results := [.lit (.bool true)], args := [d1, d2, d3] }
  | _ => none }
def matcherSplitsRow : OpenClaim := { program := "ytdciniefkodeaaa", sum := "96813e0fe0b9910c9eae5cd6f390ef7dfc270402f5ce779b33b2905d7c3c127a", func := "winkle/winklelaw07.MatcherSplits", spec := "matcherSplits", unfollowed := true, recurses := true, plainKeys := false, apart := false }
def MatcherSplitsSaid : Prop := matcherSplitsRow.holds Try.pinned (OpenSpec.ofChange matcherSplitsSpec)

/-- ITS FALSE NEIGHBOUR: 'it returns false'. Refute it at one input. -/
def matcherSplitsWrong : ChangeSpec := { name := "matcherSplits", fn := fun _ => fun
  | [d1, d2, d3] => { results := [.lit (.bool false)], args := [d1, d2, d3] }
  | _ => none }
def MatcherSplitsWrongFalsely : Prop := matcherSplitsRow.holds Try.pinned (OpenSpec.ofChange matcherSplitsWrong)

/-- 'winklelaw07.MatcherPlays': WHATEVER THE INPUT: true; the input reads as it did. -/
def matcherPlaysSpec : ChangeSpec := { name := "matcherPlays", fn := fun _ => fun
  | [d1, d2] => { results := [.lit (.bool true)], args := [d1, d2] }
  | _ => none }
def matcherPlaysRow : OpenClaim := { program := "ytdciniefkodeaaa", sum := "96813e0fe0b9910c9eae5cd6f390ef7dfc270402f5ce779b33b2905d7c3c127a", func := "winkle/winklelaw07.MatcherPlays", spec := "matcherPlays", unfollowed := true, recurses := true, plainKeys := false, apart := false }
def MatcherPlaysSaid : Prop := matcherPlaysRow.holds Try.pinned (OpenSpec.ofChange matcherPlaysSpec)

/-- ITS FALSE NEIGHBOUR: 'it returns false'. Refute it at one input. -/
def matcherPlaysWrong : ChangeSpec := { name := "matcherPlays", fn := fun _ => fun
  | [d1, d2] => { results := [.lit (.bool false)], args := [d1, d2] }
  | _ => none }
def MatcherPlaysWrongFalsely : Prop := matcherPlaysRow.holds Try.pinned (OpenSpec.ofChange matcherPlaysWrong)

/-- 'winklelaw07.MatcherNobody': WHATEVER THE INPUT: true; the input reads as it did. -/
def matcherNobodySpec : ChangeSpec := { name := "matcherNobody", fn := fun _ => fun
  | [d1, d2, d3] => { results := [.lit (.bool true)], args := [d1, d2, d3] }
  | _ => none }
def matcherNobodyRow : OpenClaim := { program := "ytdciniefkodeaaa", sum := "96813e0fe0b9910c9eae5cd6f390ef7dfc270402f5ce779b33b2905d7c3c127a", func := "winkle/winklelaw07.MatcherNobody", spec := "matcherNobody", unfollowed := true, recurses := true, plainKeys := false, apart := false }
def MatcherNobodySaid : Prop := matcherNobodyRow.holds Try.pinned (OpenSpec.ofChange matcherNobodySpec)

/-- ITS FALSE NEIGHBOUR: 'it returns false'. Refute it at one input. -/
def matcherNobodyWrong : ChangeSpec := { name := "matcherNobody", fn := fun _ => fun
  | [d1, d2, d3] => { results := [.lit (.bool false)], args := [d1, d2, d3] }
  | _ => none }
def MatcherNobodyWrongFalsely : Prop := matcherNobodyRow.holds Try.pinned (OpenSpec.ofChange matcherNobodyWrong)

/- THE SECOND FORM. 'bulk': how many values and letters a reading holds, each counted each time it is reached (what is shared counts as often as it is met; a slice's spare places count too). A statement '..UptoSaid' is the law's where the arguments, and the package variables that the reading takes, are together of bulk at most 1048576: NARROWER than '..Said'. Prove '..Said' where nothing that the law and all that it calls make is longer than what came in: it says more and counts as full. Else prove '..UptoSaid'. A law counts once. -/
mutual
def uptoBulk {H : Type} : DataW H → Nat
  | .lit (.string bytes) => bytes.length + 1
  | .lit _ => 1
  | .nil => 1
  | .ptr d => uptoBulk d + 1
  | .slice elems spare => uptoBulkAll elems + uptoBulkAll spare + 1
  | .agg parts => uptoBulkAll parts + 1
  | .iface _ d => uptoBulk d + 1
  | .map entries => uptoBulkEntries entries + 1
  | .held _ => 1
def uptoBulkAll {H : Type} : List (DataW H) → Nat
  | [] => 0
  | d :: r => uptoBulk d + uptoBulkAll r
def uptoBulkEntries {H : Type} : List (Lit × DataW H) → Nat
  | [] => 0
  | x :: r => uptoBulkEntry x + uptoBulkEntries r
def uptoBulkEntry {H : Type} : Lit × DataW H → Nat
  | (.string bytes, d) => bytes.length + uptoBulk d + 1
  | (_, d) => uptoBulk d + 1
 end
def uptoSmall : (H : Type) → List (DataW H) → Bool := fun _ ds => decide (uptoBulkAll ds ≤ 1048576)
def OpenSpec.upto (s : _root_.Go.ChangeSpec) : _root_.Go.OpenSpec := { _root_.Go.OpenSpec.ofChange s with cond := some uptoSmall }

/-- 'winklelaw06.PatternsChecks', WHERE WHAT IT READS IS OF BULK AT MOST 1048576: true; the input reads as it did. -/
def patternsChecksUptoRow : OpenClaim := { program := "ytdciniefkodeaaa", sum := "96813e0fe0b9910c9eae5cd6f390ef7dfc270402f5ce779b33b2905d7c3c127a", func := "winkle/winklelaw06.PatternsChecks", spec := "patternsChecks", unfollowed := true, recurses := true, plainKeys := false, apart := false, narrowed := true }
def PatternsChecksUptoSaid : Prop := patternsChecksUptoRow.holds Try.pinned (OpenSpec.upto patternsChecksSpec)

/-- 'winklelaw06.PatternsOuts', WHERE WHAT IT READS IS OF BULK AT MOST 1048576: true; the input reads as it did. -/
def patternsOutsUptoRow : OpenClaim := { program := "ytdciniefkodeaaa", sum := "96813e0fe0b9910c9eae5cd6f390ef7dfc270402f5ce779b33b2905d7c3c127a", func := "winkle/winklelaw06.PatternsOuts", spec := "patternsOuts", unfollowed := true, recurses := true, plainKeys := false, apart := false, narrowed := true }
def PatternsOutsUptoSaid : Prop := patternsOutsUptoRow.holds Try.pinned (OpenSpec.upto patternsOutsSpec)

/-- 'winklelaw06.PatternsFails', WHERE WHAT IT READS IS OF BULK AT MOST 1048576: true; the input reads as it did. -/
def patternsFailsUptoRow : OpenClaim := { program := "ytdciniefkodeaaa", sum := "96813e0fe0b9910c9eae5cd6f390ef7dfc270402f5ce779b33b2905d7c3c127a", func := "winkle/winklelaw06.PatternsFails", spec := "patternsFails", unfollowed := true, recurses := true, plainKeys := false, apart := false, narrowed := true }
def PatternsFailsUptoSaid : Prop := patternsFailsUptoRow.holds Try.pinned (OpenSpec.upto patternsFailsSpec)

/-- 'winklelaw06.PatternsTurned', WHERE WHAT IT READS IS OF BULK AT MOST 1048576: true; the input reads as it did. -/
def patternsTurnedUptoRow : OpenClaim := { program := "ytdciniefkodeaaa", sum := "96813e0fe0b9910c9eae5cd6f390ef7dfc270402f5ce779b33b2905d7c3c127a", func := "winkle/winklelaw06.PatternsTurned", spec := "patternsTurned", unfollowed := true, recurses := true, plainKeys := false, apart := false, narrowed := true }
def PatternsTurnedUptoSaid : Prop := patternsTurnedUptoRow.holds Try.pinned (OpenSpec.upto patternsTurnedSpec)

/-- 'winklelaw06.PatternsWords', WHERE WHAT IT READS IS OF BULK AT MOST 1048576: true; the input reads as it did. -/
def patternsWordsUptoRow : OpenClaim := { program := "ytdciniefkodeaaa", sum := "96813e0fe0b9910c9eae5cd6f390ef7dfc270402f5ce779b33b2905d7c3c127a", func := "winkle/winklelaw06.PatternsWords", spec := "patternsWords", unfollowed := true, recurses := true, plainKeys := false, apart := false, narrowed := true }
def PatternsWordsUptoSaid : Prop := patternsWordsUptoRow.holds Try.pinned (OpenSpec.upto patternsWordsSpec)

/-- 'winklelaw07.MatcherAll', WHERE WHAT IT READS IS OF BULK AT MOST 1048576: true; the input reads as it did. -/
def matcherAllUptoRow : OpenClaim := { program := "ytdciniefkodeaaa", sum := "96813e0fe0b9910c9eae5cd6f390ef7dfc270402f5ce779b33b2905d7c3c127a", func := "winkle/winklelaw07.MatcherAll", spec := "matcherAll", unfollowed := true, recurses := true, plainKeys := false, apart := false, narrowed := true }
def MatcherAllUptoSaid : Prop := matcherAllUptoRow.holds Try.pinned (OpenSpec.upto matcherAllSpec)

/-- 'winklelaw07.MatcherCaps', WHERE WHAT IT READS IS OF BULK AT MOST 1048576: true; the input reads as it did. -/
def matcherCapsUptoRow : OpenClaim := { program := "ytdciniefkodeaaa", sum := "96813e0fe0b9910c9eae5cd6f390ef7dfc270402f5ce779b33b2905d7c3c127a", func := "winkle/winklelaw07.MatcherCaps", spec := "matcherCaps", unfollowed := true, recurses := true, plainKeys := false, apart := false, narrowed := true }
def MatcherCapsUptoSaid : Prop := matcherCapsUptoRow.holds Try.pinned (OpenSpec.upto matcherCapsSpec)

/-- 'winklelaw06.PatternsBuilds', WHERE WHAT IT READS IS OF BULK AT MOST 1048576: true; the input reads as it did. -/
def patternsBuildsUptoRow : OpenClaim := { program := "ytdciniefkodeaaa", sum := "96813e0fe0b9910c9eae5cd6f390ef7dfc270402f5ce779b33b2905d7c3c127a", func := "winkle/winklelaw06.PatternsBuilds", spec := "patternsBuilds", unfollowed := true, recurses := true, plainKeys := false, apart := false, narrowed := true }
def PatternsBuildsUptoSaid : Prop := patternsBuildsUptoRow.holds Try.pinned (OpenSpec.upto patternsBuildsSpec)

/-- 'winklelaw06.PatternsNobody', WHERE WHAT IT READS IS OF BULK AT MOST 1048576: true; the input reads as it did. -/
def patternsNobodyUptoRow : OpenClaim := { program := "ytdciniefkodeaaa", sum := "96813e0fe0b9910c9eae5cd6f390ef7dfc270402f5ce779b33b2905d7c3c127a", func := "winkle/winklelaw06.PatternsNobody", spec := "patternsNobody", unfollowed := true, recurses := true, plainKeys := false, apart := false, narrowed := true }
def PatternsNobodyUptoSaid : Prop := patternsNobodyUptoRow.holds Try.pinned (OpenSpec.upto patternsNobodySpec)

/-- 'winklelaw07.MatcherFinds', WHERE WHAT IT READS IS OF BULK AT MOST 1048576: true; the input reads as it did. -/
def matcherFindsUptoRow : OpenClaim := { program := "ytdciniefkodeaaa", sum := "96813e0fe0b9910c9eae5cd6f390ef7dfc270402f5ce779b33b2905d7c3c127a", func := "winkle/winklelaw07.MatcherFinds", spec := "matcherFinds", unfollowed := true, recurses := true, plainKeys := false, apart := false, narrowed := true }
def MatcherFindsUptoSaid : Prop := matcherFindsUptoRow.holds Try.pinned (OpenSpec.upto matcherFindsSpec)

/-- 'winklelaw07.MatcherSplits', WHERE WHAT IT READS IS OF BULK AT MOST 1048576: true; the input reads as it did. -/
def matcherSplitsUptoRow : OpenClaim := { program := "ytdciniefkodeaaa", sum := "96813e0fe0b9910c9eae5cd6f390ef7dfc270402f5ce779b33b2905d7c3c127a", func := "winkle/winklelaw07.MatcherSplits", spec := "matcherSplits", unfollowed := true, recurses := true, plainKeys := false, apart := false, narrowed := true }
def MatcherSplitsUptoSaid : Prop := matcherSplitsUptoRow.holds Try.pinned (OpenSpec.upto matcherSplitsSpec)

/-- 'winklelaw07.MatcherPlays', WHERE WHAT IT READS IS OF BULK AT MOST 1048576: true; the input reads as it did. -/
def matcherPlaysUptoRow : OpenClaim := { program := "ytdciniefkodeaaa", sum := "96813e0fe0b9910c9eae5cd6f390ef7dfc270402f5ce779b33b2905d7c3c127a", func := "winkle/winklelaw07.MatcherPlays", spec := "matcherPlays", unfollowed := true, recurses := true, plainKeys := false, apart := false, narrowed := true }
def MatcherPlaysUptoSaid : Prop := matcherPlaysUptoRow.holds Try.pinned (OpenSpec.upto matcherPlaysSpec)

/-- 'winklelaw07.MatcherNobody', WHERE WHAT IT READS IS OF BULK AT MOST 1048576: true; the input reads as it did. -/
def matcherNobodyUptoRow : OpenClaim := { program := "ytdciniefkodeaaa", sum := "96813e0fe0b9910c9eae5cd6f390ef7dfc270402f5ce779b33b2905d7c3c127a", func := "winkle/winklelaw07.MatcherNobody", spec := "matcherNobody", unfollowed := true, recurses := true, plainKeys := false, apart := false, narrowed := true }
def MatcherNobodyUptoSaid : Prop := matcherNobodyUptoRow.holds Try.pinned (OpenSpec.upto matcherNobodySpec)

end Rows
end Go.Proofs.Ytdciniefkodeaaa
