/-
  No cell of these rows narrows 'for every input' (looked for: loops, veiled, ifaces, maps, wideKeys, modest, calm, conditions, laid).
  DERIVED. THE GIVEN ROWS OF THIS SEAT. 18 by the template 'for every input the law returns true; each argument reads behind the call as it read before'; 0 by the template 'total and deterministic' (their statements: YtodidfdfbanliaaTotals.lean).
  GIVEN WITH THE SEED: the statements are not yours to turn. If you find one false, say at which input.
  Laid BY PROGRAM, IN A SANDBOX (cutbox-rows.mjs): the forced cells as the released guide's own fill.sh prints them over the translation 6c993154d07d8408… (all of the seat's roots in one cut). By AI agents, Wed Nov 11 2026. No macro, syntax, notation, axiom, sorry.
-/
import Derived.Test.YtodidfdfbanliaaChecked
import GoSem.Claim
import GoSem.ClaimJoined
import GoSem.ClaimMapViews
import Derived.JoinedTies
import Derived.KernelRfl
namespace Go.Proofs.Ytodidfdfbanliaa
/- THE CELL 'sum', in the pinned program and in every row, IS THE sha256 OF THE DUMP (.gsa) THAT YtodidfdfbanliaaProg.lean LOADS. Nothing in Lean hashes anything: it is a label: what it is worth is what the hold of that sum in a sandbox is worth. -/
noncomputable def Try.pinned : Pinned := { name := "ytodidfdfbanliaa", sum := "6c993154d07d8408d9a0ee4a85636231bbc2406379f6bdbc253959689a5b6d94", checked := Try.checked }
namespace Rows
def none {H : Type} : Left H := { results := [], args := [] }

/-- 'winklelaw12.HeaderWhole': WHATEVER THE INPUT: true; the input reads as it did. -/
def headerWholeSpec : ChangeSpec := { name := "headerWhole", fn := fun _ => fun
  | [d1, d2] => { results := [.lit (.bool true)], args := [d1, d2] }
  | _ => none }
def headerWholeRow : OpenClaim := { program := "ytodidfdfbanliaa", sum := "6c993154d07d8408d9a0ee4a85636231bbc2406379f6bdbc253959689a5b6d94", func := "winkle/winklelaw12.HeaderWhole", spec := "headerWhole", unfollowed := true, recurses := true, apart := false }
def HeaderWholeSaid : Prop := headerWholeRow.holds Try.pinned (OpenSpec.ofChange headerWholeSpec)

/-- ITS FALSE NEIGHBOUR: 'it returns false'. Refute it at one input. -/
def headerWholeWrong : ChangeSpec := { name := "headerWhole", fn := fun _ => fun
  | [d1, d2] => { results := [.lit (.bool false)], args := [d1, d2] }
  | _ => none }
def HeaderWholeWrongFalsely : Prop := headerWholeRow.holds Try.pinned (OpenSpec.ofChange headerWholeWrong)

/-- 'winklelaw12.HeaderAsks': WHATEVER THE INPUT: true; the input reads as it did. -/
def headerAsksSpec : ChangeSpec := { name := "headerAsks", fn := fun _ => fun
  | [d1, d2, d3] => { results := [.lit (.bool true)], args := [d1, d2, d3] }
  | _ => none }
def headerAsksRow : OpenClaim := { program := "ytodidfdfbanliaa", sum := "6c993154d07d8408d9a0ee4a85636231bbc2406379f6bdbc253959689a5b6d94", func := "winkle/winklelaw12.HeaderAsks", spec := "headerAsks", unfollowed := true, recurses := true, apart := false }
def HeaderAsksSaid : Prop := headerAsksRow.holds Try.pinned (OpenSpec.ofChange headerAsksSpec)

/-- ITS FALSE NEIGHBOUR: 'it returns false'. Refute it at one input. -/
def headerAsksWrong : ChangeSpec := { name := "headerAsks", fn := fun _ => fun
  | [d1, d2, d3] => { results := [.lit (.bool false)], args := [d1, d2, d3] }
  | _ => none }
def HeaderAsksWrongFalsely : Prop := headerAsksRow.holds Try.pinned (OpenSpec.ofChange headerAsksWrong)

/-- 'winklelaw12.HeaderBack': WHATEVER THE INPUT: true; the input reads as it did. -/
def headerBackSpec : ChangeSpec := { name := "headerBack", fn := fun _ => fun
  | [d1, d2, d3] => { results := [.lit (.bool true)], args := [d1, d2, d3] }
  | _ => none }
def headerBackRow : OpenClaim := { program := "ytodidfdfbanliaa", sum := "6c993154d07d8408d9a0ee4a85636231bbc2406379f6bdbc253959689a5b6d94", func := "winkle/winklelaw12.HeaderBack", spec := "headerBack", unfollowed := true, recurses := true, apart := false }
def HeaderBackSaid : Prop := headerBackRow.holds Try.pinned (OpenSpec.ofChange headerBackSpec)

/-- ITS FALSE NEIGHBOUR: 'it returns false'. Refute it at one input. -/
def headerBackWrong : ChangeSpec := { name := "headerBack", fn := fun _ => fun
  | [d1, d2, d3] => { results := [.lit (.bool false)], args := [d1, d2, d3] }
  | _ => none }
def HeaderBackWrongFalsely : Prop := headerBackRow.holds Try.pinned (OpenSpec.ofChange headerBackWrong)

/-- 'winklelaw12.HeaderEnds': WHATEVER THE INPUT: true; the input reads as it did. -/
def headerEndsSpec : ChangeSpec := { name := "headerEnds", fn := fun _ => fun
  | [d1, d2] => { results := [.lit (.bool true)], args := [d1, d2] }
  | _ => none }
def headerEndsRow : OpenClaim := { program := "ytodidfdfbanliaa", sum := "6c993154d07d8408d9a0ee4a85636231bbc2406379f6bdbc253959689a5b6d94", func := "winkle/winklelaw12.HeaderEnds", spec := "headerEnds", unfollowed := true, recurses := true, apart := false }
def HeaderEndsSaid : Prop := headerEndsRow.holds Try.pinned (OpenSpec.ofChange headerEndsSpec)

/-- ITS FALSE NEIGHBOUR: 'it returns false'. Refute it at one input. -/
def headerEndsWrong : ChangeSpec := { name := "headerEnds", fn := fun _ => fun
  | [d1, d2] => { results := [.lit (.bool false)], args := [d1, d2] }
  | _ => none }
def HeaderEndsWrongFalsely : Prop := headerEndsRow.holds Try.pinned (OpenSpec.ofChange headerEndsWrong)

/-- 'winklelaw12.HeaderMost': WHATEVER THE INPUT: true; the input reads as it did. -/
def headerMostSpec : ChangeSpec := { name := "headerMost", fn := fun _ => fun
  | [d] => { results := [.lit (.bool true)], args := [d] }
  | _ => none }
def headerMostRow : OpenClaim := { program := "ytodidfdfbanliaa", sum := "6c993154d07d8408d9a0ee4a85636231bbc2406379f6bdbc253959689a5b6d94", func := "winkle/winklelaw12.HeaderMost", spec := "headerMost", unfollowed := true, recurses := true, apart := false }
def HeaderMostSaid : Prop := headerMostRow.holds Try.pinned (OpenSpec.ofChange headerMostSpec)

/-- ITS FALSE NEIGHBOUR: 'it returns false'. Refute it at one input. -/
def headerMostWrong : ChangeSpec := { name := "headerMost", fn := fun _ => fun
  | [d] => { results := [.lit (.bool false)], args := [d] }
  | _ => none }
def HeaderMostWrongFalsely : Prop := headerMostRow.holds Try.pinned (OpenSpec.ofChange headerMostWrong)

/-- 'winklelaw12.HeaderSteps': WHATEVER THE INPUT: true; the input reads as it did. -/
def headerStepsSpec : ChangeSpec := { name := "headerSteps", fn := fun _ => fun
  | [d1, d2, d3] => { results := [.lit (.bool true)], args := [d1, d2, d3] }
  | _ => none }
def headerStepsRow : OpenClaim := { program := "ytodidfdfbanliaa", sum := "6c993154d07d8408d9a0ee4a85636231bbc2406379f6bdbc253959689a5b6d94", func := "winkle/winklelaw12.HeaderSteps", spec := "headerSteps", unfollowed := true, recurses := true, apart := false }
def HeaderStepsSaid : Prop := headerStepsRow.holds Try.pinned (OpenSpec.ofChange headerStepsSpec)

/-- ITS FALSE NEIGHBOUR: 'it returns false'. Refute it at one input. -/
def headerStepsWrong : ChangeSpec := { name := "headerSteps", fn := fun _ => fun
  | [d1, d2, d3] => { results := [.lit (.bool false)], args := [d1, d2, d3] }
  | _ => none }
def HeaderStepsWrongFalsely : Prop := headerStepsRow.holds Try.pinned (OpenSpec.ofChange headerStepsWrong)

/-- 'winklelaw12.HeaderNobody': WHATEVER THE INPUT: true; the input reads as it did. -/
def headerNobodySpec : ChangeSpec := { name := "headerNobody", fn := fun _ => fun
  | [d1, d2] => { results := [.lit (.bool true)], args := [d1, d2] }
  | _ => none }
def headerNobodyRow : OpenClaim := { program := "ytodidfdfbanliaa", sum := "6c993154d07d8408d9a0ee4a85636231bbc2406379f6bdbc253959689a5b6d94", func := "winkle/winklelaw12.HeaderNobody", spec := "headerNobody", unfollowed := true, recurses := true, apart := false }
def HeaderNobodySaid : Prop := headerNobodyRow.holds Try.pinned (OpenSpec.ofChange headerNobodySpec)

/-- ITS FALSE NEIGHBOUR: 'it returns false'. Refute it at one input. -/
def headerNobodyWrong : ChangeSpec := { name := "headerNobody", fn := fun _ => fun
  | [d1, d2] => { results := [.lit (.bool false)], args := [d1, d2] }
  | _ => none }
def HeaderNobodyWrongFalsely : Prop := headerNobodyRow.holds Try.pinned (OpenSpec.ofChange headerNobodyWrong)

/-- 'winklelaw13.MimetypeReads': WHATEVER THE INPUT: true; the input reads as it did. -/
def mimetypeReadsSpec : ChangeSpec := { name := "mimetypeReads", fn := fun _ => fun
  | [d] => { results := [.lit (.bool true)], args := [d] }
  | _ => none }
def mimetypeReadsRow : OpenClaim := { program := "ytodidfdfbanliaa", sum := "6c993154d07d8408d9a0ee4a85636231bbc2406379f6bdbc253959689a5b6d94", func := "winkle/winklelaw13.MimetypeReads", spec := "mimetypeReads", inPlace := ["internal/abi.NoEscape"], unfollowed := true, recurses := true, apart := false }
def MimetypeReadsSaid : Prop := mimetypeReadsRow.holds Try.pinned (OpenSpec.ofChange mimetypeReadsSpec)

/-- ITS FALSE NEIGHBOUR: 'it returns false'. Refute it at one input. -/
def mimetypeReadsWrong : ChangeSpec := { name := "mimetypeReads", fn := fun _ => fun
  | [d] => { results := [.lit (.bool false)], args := [d] }
  | _ => none }
def MimetypeReadsWrongFalsely : Prop := mimetypeReadsRow.holds Try.pinned (OpenSpec.ofChange mimetypeReadsWrong)

/-- 'winklelaw13.MimetypeWrites': WHATEVER THE INPUT: true; the input reads as it did. -/
def mimetypeWritesSpec : ChangeSpec := { name := "mimetypeWrites", fn := fun _ => fun
  | [d1, d2] => { results := [.lit (.bool true)], args := [d1, d2] }
  | _ => none }
def mimetypeWritesRow : OpenClaim := { program := "ytodidfdfbanliaa", sum := "6c993154d07d8408d9a0ee4a85636231bbc2406379f6bdbc253959689a5b6d94", func := "winkle/winklelaw13.MimetypeWrites", spec := "mimetypeWrites", inPlace := ["internal/abi.NoEscape"], unfollowed := true, recurses := true, apart := false }
def MimetypeWritesSaid : Prop := mimetypeWritesRow.holds Try.pinned (OpenSpec.ofChange mimetypeWritesSpec)

/-- ITS FALSE NEIGHBOUR: 'it returns false'. Refute it at one input. -/
def mimetypeWritesWrong : ChangeSpec := { name := "mimetypeWrites", fn := fun _ => fun
  | [d1, d2] => { results := [.lit (.bool false)], args := [d1, d2] }
  | _ => none }
def MimetypeWritesWrongFalsely : Prop := mimetypeWritesRow.holds Try.pinned (OpenSpec.ofChange mimetypeWritesWrong)

/-- 'winklelaw13.MimetypeEncodings': WHATEVER THE INPUT: true; the input reads as it did. -/
def mimetypeEncodingsSpec : ChangeSpec := { name := "mimetypeEncodings", fn := fun _ => fun
  | [d] => { results := [.lit (.bool true)], args := [d] }
  | _ => none }
def mimetypeEncodingsRow : OpenClaim := { program := "ytodidfdfbanliaa", sum := "6c993154d07d8408d9a0ee4a85636231bbc2406379f6bdbc253959689a5b6d94", func := "winkle/winklelaw13.MimetypeEncodings", spec := "mimetypeEncodings", inPlace := ["internal/abi.NoEscape"], unfollowed := true, recurses := true, apart := false }
def MimetypeEncodingsSaid : Prop := mimetypeEncodingsRow.holds Try.pinned (OpenSpec.ofChange mimetypeEncodingsSpec)

/-- ITS FALSE NEIGHBOUR: 'it returns false'. Refute it at one input. -/
def mimetypeEncodingsWrong : ChangeSpec := { name := "mimetypeEncodings", fn := fun _ => fun
  | [d] => { results := [.lit (.bool false)], args := [d] }
  | _ => none }
def MimetypeEncodingsWrongFalsely : Prop := mimetypeEncodingsRow.holds Try.pinned (OpenSpec.ofChange mimetypeEncodingsWrong)

/-- 'winklelaw13.MimetypeBack': WHATEVER THE INPUT: true; the input reads as it did. -/
def mimetypeBackSpec : ChangeSpec := { name := "mimetypeBack", fn := fun _ => fun
  | [d] => { results := [.lit (.bool true)], args := [d] }
  | _ => none }
def mimetypeBackRow : OpenClaim := { program := "ytodidfdfbanliaa", sum := "6c993154d07d8408d9a0ee4a85636231bbc2406379f6bdbc253959689a5b6d94", func := "winkle/winklelaw13.MimetypeBack", spec := "mimetypeBack", inPlace := ["internal/abi.NoEscape"], unfollowed := true, recurses := true, apart := false }
def MimetypeBackSaid : Prop := mimetypeBackRow.holds Try.pinned (OpenSpec.ofChange mimetypeBackSpec)

/-- ITS FALSE NEIGHBOUR: 'it returns false'. Refute it at one input. -/
def mimetypeBackWrong : ChangeSpec := { name := "mimetypeBack", fn := fun _ => fun
  | [d] => { results := [.lit (.bool false)], args := [d] }
  | _ => none }
def MimetypeBackWrongFalsely : Prop := mimetypeBackRow.holds Try.pinned (OpenSpec.ofChange mimetypeBackWrong)

/-- 'winklelaw13.MimetypeForms': WHATEVER THE INPUT: true; the input reads as it did. -/
def mimetypeFormsSpec : ChangeSpec := { name := "mimetypeForms", fn := fun _ => fun
  | [d] => { results := [.lit (.bool true)], args := [d] }
  | _ => none }
def mimetypeFormsRow : OpenClaim := { program := "ytodidfdfbanliaa", sum := "6c993154d07d8408d9a0ee4a85636231bbc2406379f6bdbc253959689a5b6d94", func := "winkle/winklelaw13.MimetypeForms", spec := "mimetypeForms", inPlace := ["internal/abi.NoEscape"], unfollowed := true, recurses := true, apart := false }
def MimetypeFormsSaid : Prop := mimetypeFormsRow.holds Try.pinned (OpenSpec.ofChange mimetypeFormsSpec)

/-- ITS FALSE NEIGHBOUR: 'it returns false'. Refute it at one input. -/
def mimetypeFormsWrong : ChangeSpec := { name := "mimetypeForms", fn := fun _ => fun
  | [d] => { results := [.lit (.bool false)], args := [d] }
  | _ => none }
def MimetypeFormsWrongFalsely : Prop := mimetypeFormsRow.holds Try.pinned (OpenSpec.ofChange mimetypeFormsWrong)

/-- 'winklelaw13.MimetypeBetween': WHATEVER THE INPUT: true; the input reads as it did. -/
def mimetypeBetweenSpec : ChangeSpec := { name := "mimetypeBetween", fn := fun _ => fun
  | [d1, d2] => { results := [.lit (.bool true)], args := [d1, d2] }
  | _ => none }
def mimetypeBetweenRow : OpenClaim := { program := "ytodidfdfbanliaa", sum := "6c993154d07d8408d9a0ee4a85636231bbc2406379f6bdbc253959689a5b6d94", func := "winkle/winklelaw13.MimetypeBetween", spec := "mimetypeBetween", inPlace := ["internal/abi.NoEscape"], unfollowed := true, recurses := true, apart := false }
def MimetypeBetweenSaid : Prop := mimetypeBetweenRow.holds Try.pinned (OpenSpec.ofChange mimetypeBetweenSpec)

/-- ITS FALSE NEIGHBOUR: 'it returns false'. Refute it at one input. -/
def mimetypeBetweenWrong : ChangeSpec := { name := "mimetypeBetween", fn := fun _ => fun
  | [d1, d2] => { results := [.lit (.bool false)], args := [d1, d2] }
  | _ => none }
def MimetypeBetweenWrongFalsely : Prop := mimetypeBetweenRow.holds Try.pinned (OpenSpec.ofChange mimetypeBetweenWrong)

/-- 'winklelaw13.MimetypeTokens': WHATEVER THE INPUT: true; the input reads as it did. -/
def mimetypeTokensSpec : ChangeSpec := { name := "mimetypeTokens", fn := fun _ => fun
  | [d1, d2] => { results := [.lit (.bool true)], args := [d1, d2] }
  | _ => none }
def mimetypeTokensRow : OpenClaim := { program := "ytodidfdfbanliaa", sum := "6c993154d07d8408d9a0ee4a85636231bbc2406379f6bdbc253959689a5b6d94", func := "winkle/winklelaw13.MimetypeTokens", spec := "mimetypeTokens", inPlace := ["internal/abi.NoEscape"], unfollowed := true, recurses := true, apart := false }
def MimetypeTokensSaid : Prop := mimetypeTokensRow.holds Try.pinned (OpenSpec.ofChange mimetypeTokensSpec)

/-- ITS FALSE NEIGHBOUR: 'it returns false'. Refute it at one input. -/
def mimetypeTokensWrong : ChangeSpec := { name := "mimetypeTokens", fn := fun _ => fun
  | [d1, d2] => { results := [.lit (.bool false)], args := [d1, d2] }
  | _ => none }
def MimetypeTokensWrongFalsely : Prop := mimetypeTokensRow.holds Try.pinned (OpenSpec.ofChange mimetypeTokensWrong)

/-- 'winklelaw19.EntityPlans': WHATEVER THE INPUT: true; the input reads as it did. -/
def entityPlansSpec : ChangeSpec := { name := "entityPlans", fn := fun _ => fun
  | [d] => { results := [.lit (.bool true)], args := [d] }
  | _ => none }
def entityPlansRow : OpenClaim := { program := "ytodidfdfbanliaa", sum := "6c993154d07d8408d9a0ee4a85636231bbc2406379f6bdbc253959689a5b6d94", func := "winkle/winklelaw19.EntityPlans", spec := "entityPlans", inPlace := ["internal/abi.NoEscape", "internal/bytealg.IndexByteString"], unfollowed := true, recurses := true, apart := false }
def EntityPlansSaid : Prop := entityPlansRow.holds Try.pinned (OpenSpec.ofChange entityPlansSpec)

/-- ITS FALSE NEIGHBOUR: 'it returns false'. Refute it at one input. -/
def entityPlansWrong : ChangeSpec := { name := "entityPlans", fn := fun _ => fun
  | [d] => { results := [.lit (.bool false)], args := [d] }
  | _ => none }
def EntityPlansWrongFalsely : Prop := entityPlansRow.holds Try.pinned (OpenSpec.ofChange entityPlansWrong)

/-- 'winklelaw19.EntityFirst': WHATEVER THE INPUT: true; the input reads as it did. -/
def entityFirstSpec : ChangeSpec := { name := "entityFirst", fn := fun _ => fun
  | [d1, d2] => { results := [.lit (.bool true)], args := [d1, d2] }
  | _ => none }
def entityFirstRow : OpenClaim := { program := "ytodidfdfbanliaa", sum := "6c993154d07d8408d9a0ee4a85636231bbc2406379f6bdbc253959689a5b6d94", func := "winkle/winklelaw19.EntityFirst", spec := "entityFirst", inPlace := ["internal/abi.NoEscape", "internal/bytealg.IndexByteString"], unfollowed := true, recurses := true, apart := false }
def EntityFirstSaid : Prop := entityFirstRow.holds Try.pinned (OpenSpec.ofChange entityFirstSpec)

/-- ITS FALSE NEIGHBOUR: 'it returns false'. Refute it at one input. -/
def entityFirstWrong : ChangeSpec := { name := "entityFirst", fn := fun _ => fun
  | [d1, d2] => { results := [.lit (.bool false)], args := [d1, d2] }
  | _ => none }
def EntityFirstWrongFalsely : Prop := entityFirstRow.holds Try.pinned (OpenSpec.ofChange entityFirstWrong)

/-- 'winklelaw19.EntityCapitals': WHATEVER THE INPUT: true; the input reads as it did. -/
def entityCapitalsSpec : ChangeSpec := { name := "entityCapitals", fn := fun _ => fun
  | [d1, d2, d3] => { results := [.lit (.bool true)], args := [d1, d2, d3] }
  | _ => none }
def entityCapitalsRow : OpenClaim := { program := "ytodidfdfbanliaa", sum := "6c993154d07d8408d9a0ee4a85636231bbc2406379f6bdbc253959689a5b6d94", func := "winkle/winklelaw19.EntityCapitals", spec := "entityCapitals", inPlace := ["internal/abi.NoEscape", "internal/bytealg.IndexByteString"], unfollowed := true, recurses := true, apart := false }
def EntityCapitalsSaid : Prop := entityCapitalsRow.holds Try.pinned (OpenSpec.ofChange entityCapitalsSpec)

/-- ITS FALSE NEIGHBOUR: 'it returns false'. Refute it at one input. -/
def entityCapitalsWrong : ChangeSpec := { name := "entityCapitals", fn := fun _ => fun
  | [d1, d2, d3] => { results := [.lit (.bool false)], args := [d1, d2, d3] }
  | _ => none }
def EntityCapitalsWrongFalsely : Prop := entityCapitalsRow.holds Try.pinned (OpenSpec.ofChange entityCapitalsWrong)

/-- 'winklelaw19.EntityTexts': WHATEVER THE INPUT: true; the input reads as it did. -/
def entityTextsSpec : ChangeSpec := { name := "entityTexts", fn := fun _ => fun
  | [d] => { results := [.lit (.bool true)], args := [d] }
  | _ => none }
def entityTextsRow : OpenClaim := { program := "ytodidfdfbanliaa", sum := "6c993154d07d8408d9a0ee4a85636231bbc2406379f6bdbc253959689a5b6d94", func := "winkle/winklelaw19.EntityTexts", spec := "entityTexts", inPlace := ["internal/abi.NoEscape", "internal/bytealg.IndexByteString"], unfollowed := true, recurses := true, apart := false }
def EntityTextsSaid : Prop := entityTextsRow.holds Try.pinned (OpenSpec.ofChange entityTextsSpec)

/-- ITS FALSE NEIGHBOUR: 'it returns false'. Refute it at one input. -/
def entityTextsWrong : ChangeSpec := { name := "entityTexts", fn := fun _ => fun
  | [d] => { results := [.lit (.bool false)], args := [d] }
  | _ => none }
def EntityTextsWrongFalsely : Prop := entityTextsRow.holds Try.pinned (OpenSpec.ofChange entityTextsWrong)

/- THE SECOND FORM. 'bulk': how many values and letters a reading holds, each counted each time it is reached (what is shared counts as often as it is met; a slice's spare places count too). A statement '..UptoSaid' is the law's where the arguments, and the package variables that the reading takes, are together of bulk at most 1048576: NARROWER than '..Said'. Prove '..Said' where nothing that the law and all that it calls make is longer than what came in: it says more and counts as full. Else prove '..UptoSaid'. A law counts once. -/
mutual
def uptoBulk {H : Type} : DataW H → Nat
  | .lit (.string bytes) => bytes.length + 1
  | .lit _ => 1
  | .nil => 1
  | .ptr d => uptoBulk d + 1
  | .slice elems spare => uptoBulkAll elems + uptoBulkAll spare + 1
  | .agg parts => uptoBulkAll parts + 1
  | .iface _ d => uptoBulk d + 1
  | .map entries => uptoBulkEntries entries + 1
  | .held _ => 1
def uptoBulkAll {H : Type} : List (DataW H) → Nat
  | [] => 0
  | d :: r => uptoBulk d + uptoBulkAll r
def uptoBulkEntries {H : Type} : List (Lit × DataW H) → Nat
  | [] => 0
  | x :: r => uptoBulkEntry x + uptoBulkEntries r
def uptoBulkEntry {H : Type} : Lit × DataW H → Nat
  | (.string bytes, d) => bytes.length + uptoBulk d + 1
  | (_, d) => uptoBulk d + 1
 end
def uptoSmall : (H : Type) → List (DataW H) → Bool := fun _ ds => decide (uptoBulkAll ds ≤ 1048576)
def OpenSpec.upto (s : _root_.Go.ChangeSpec) : _root_.Go.OpenSpec := { _root_.Go.OpenSpec.ofChange s with cond := some uptoSmall }

/-- 'winklelaw12.HeaderWhole', WHERE WHAT IT READS IS OF BULK AT MOST 1048576: true; the input reads as it did. -/
def headerWholeUptoRow : OpenClaim := { program := "ytodidfdfbanliaa", sum := "6c993154d07d8408d9a0ee4a85636231bbc2406379f6bdbc253959689a5b6d94", func := "winkle/winklelaw12.HeaderWhole", spec := "headerWhole", unfollowed := true, recurses := true, apart := false, narrowed := true }
def HeaderWholeUptoSaid : Prop := headerWholeUptoRow.holds Try.pinned (OpenSpec.upto headerWholeSpec)

/-- 'winklelaw12.HeaderAsks', WHERE WHAT IT READS IS OF BULK AT MOST 1048576: true; the input reads as it did. -/
def headerAsksUptoRow : OpenClaim := { program := "ytodidfdfbanliaa", sum := "6c993154d07d8408d9a0ee4a85636231bbc2406379f6bdbc253959689a5b6d94", func := "winkle/winklelaw12.HeaderAsks", spec := "headerAsks", unfollowed := true, recurses := true, apart := false, narrowed := true }
def HeaderAsksUptoSaid : Prop := headerAsksUptoRow.holds Try.pinned (OpenSpec.upto headerAsksSpec)

/-- 'winklelaw12.HeaderBack', WHERE WHAT IT READS IS OF BULK AT MOST 1048576: true; the input reads as it did. -/
def headerBackUptoRow : OpenClaim := { program := "ytodidfdfbanliaa", sum := "6c993154d07d8408d9a0ee4a85636231bbc2406379f6bdbc253959689a5b6d94", func := "winkle/winklelaw12.HeaderBack", spec := "headerBack", unfollowed := true, recurses := true, apart := false, narrowed := true }
def HeaderBackUptoSaid : Prop := headerBackUptoRow.holds Try.pinned (OpenSpec.upto headerBackSpec)

/-- 'winklelaw12.HeaderEnds', WHERE WHAT IT READS IS OF BULK AT MOST 1048576: true; the input reads as it did. -/
def headerEndsUptoRow : OpenClaim := { program := "ytodidfdfbanliaa", sum := "6c993154d07d8408d9a0ee4a85636231bbc2406379f6bdbc253959689a5b6d94", func := "winkle/winklelaw12.HeaderEnds", spec := "headerEnds", unfollowed := true, recurses := true, apart := false, narrowed := true }
def HeaderEndsUptoSaid : Prop := headerEndsUptoRow.holds Try.pinned (OpenSpec.upto headerEndsSpec)

/-- 'winklelaw12.HeaderMost', WHERE WHAT IT READS IS OF BULK AT MOST 1048576: true; the input reads as it did. -/
def headerMostUptoRow : OpenClaim := { program := "ytodidfdfbanliaa", sum := "6c993154d07d8408d9a0ee4a85636231bbc2406379f6bdbc253959689a5b6d94", func := "winkle/winklelaw12.HeaderMost", spec := "headerMost", unfollowed := true, recurses := true, apart := false, narrowed := true }
def HeaderMostUptoSaid : Prop := headerMostUptoRow.holds Try.pinned (OpenSpec.upto headerMostSpec)

/-- 'winklelaw12.HeaderSteps', WHERE WHAT IT READS IS OF BULK AT MOST 1048576: true; the input reads as it did. -/
def headerStepsUptoRow : OpenClaim := { program := "ytodidfdfbanliaa", sum := "6c993154d07d8408d9a0ee4a85636231bbc2406379f6bdbc253959689a5b6d94", func := "winkle/winklelaw12.HeaderSteps", spec := "headerSteps", unfollowed := true, recurses := true, apart := false, narrowed := true }
def HeaderStepsUptoSaid : Prop := headerStepsUptoRow.holds Try.pinned (OpenSpec.upto headerStepsSpec)

/-- 'winklelaw12.HeaderNobody', WHERE WHAT IT READS IS OF BULK AT MOST 1048576: true; the input reads as it did. -/
def headerNobodyUptoRow : OpenClaim := { program := "ytodidfdfbanliaa", sum := "6c993154d07d8408d9a0ee4a85636231bbc2406379f6bdbc253959689a5b6d94", func := "winkle/winklelaw12.HeaderNobody", spec := "headerNobody", unfollowed := true, recurses := true, apart := false, narrowed := true }
def HeaderNobodyUptoSaid : Prop := headerNobodyUptoRow.holds Try.pinned (OpenSpec.upto headerNobodySpec)

/-- 'winklelaw13.MimetypeReads', WHERE WHAT IT READS IS OF BULK AT MOST 1048576: true; the input reads as it did. -/
def mimetypeReadsUptoRow : OpenClaim := { program := "ytodidfdfbanliaa", sum := "6c993154d07d8408d9a0ee4a85636231bbc2406379f6bdbc253959689a5b6d94", func := "winkle/winklelaw13.MimetypeReads", spec := "mimetypeReads", inPlace := ["internal/abi.NoEscape"], unfollowed := true, recurses := true, apart := false, narrowed := true }
def MimetypeReadsUptoSaid : Prop := mimetypeReadsUptoRow.holds Try.pinned (OpenSpec.upto mimetypeReadsSpec)

/-- 'winklelaw13.MimetypeWrites', WHERE WHAT IT READS IS OF BULK AT MOST 1048576: true; the input reads as it did. -/
def mimetypeWritesUptoRow : OpenClaim := { program := "ytodidfdfbanliaa", sum := "6c993154d07d8408d9a0ee4a85636231bbc2406379f6bdbc253959689a5b6d94", func := "winkle/winklelaw13.MimetypeWrites", spec := "mimetypeWrites", inPlace := ["internal/abi.NoEscape"], unfollowed := true, recurses := true, apart := false, narrowed := true }
def MimetypeWritesUptoSaid : Prop := mimetypeWritesUptoRow.holds Try.pinned (OpenSpec.upto mimetypeWritesSpec)

/-- 'winklelaw13.MimetypeEncodings', WHERE WHAT IT READS IS OF BULK AT MOST 1048576: true; the input reads as it did. -/
def mimetypeEncodingsUptoRow : OpenClaim := { program := "ytodidfdfbanliaa", sum := "6c993154d07d8408d9a0ee4a85636231bbc2406379f6bdbc253959689a5b6d94", func := "winkle/winklelaw13.MimetypeEncodings", spec := "mimetypeEncodings", inPlace := ["internal/abi.NoEscape"], unfollowed := true, recurses := true, apart := false, narrowed := true }
def MimetypeEncodingsUptoSaid : Prop := mimetypeEncodingsUptoRow.holds Try.pinned (OpenSpec.upto mimetypeEncodingsSpec)

/-- 'winklelaw13.MimetypeBack', WHERE WHAT IT READS IS OF BULK AT MOST 1048576: true; the input reads as it did. -/
def mimetypeBackUptoRow : OpenClaim := { program := "ytodidfdfbanliaa", sum := "6c993154d07d8408d9a0ee4a85636231bbc2406379f6bdbc253959689a5b6d94", func := "winkle/winklelaw13.MimetypeBack", spec := "mimetypeBack", inPlace := ["internal/abi.NoEscape"], unfollowed := true, recurses := true, apart := false, narrowed := true }
def MimetypeBackUptoSaid : Prop := mimetypeBackUptoRow.holds Try.pinned (OpenSpec.upto mimetypeBackSpec)

/-- 'winklelaw13.MimetypeForms', WHERE WHAT IT READS IS OF BULK AT MOST 1048576: true; the input reads as it did. -/
def mimetypeFormsUptoRow : OpenClaim := { program := "ytodidfdfbanliaa", sum := "6c993154d07d8408d9a0ee4a85636231bbc2406379f6bdbc253959689a5b6d94", func := "winkle/winklelaw13.MimetypeForms", spec := "mimetypeForms", inPlace := ["internal/abi.NoEscape"], unfollowed := true, recurses := true, apart := false, narrowed := true }
def MimetypeFormsUptoSaid : Prop := mimetypeFormsUptoRow.holds Try.pinned (OpenSpec.upto mimetypeFormsSpec)

/-- 'winklelaw13.MimetypeBetween', WHERE WHAT IT READS IS OF BULK AT MOST 1048576: true; the input reads as it did. -/
def mimetypeBetweenUptoRow : OpenClaim := { program := "ytodidfdfbanliaa", sum := "6c993154d07d8408d9a0ee4a85636231bbc2406379f6bdbc253959689a5b6d94", func := "winkle/winklelaw13.MimetypeBetween", spec := "mimetypeBetween", inPlace := ["internal/abi.NoEscape"], unfollowed := true, recurses := true, apart := false, narrowed := true }
def MimetypeBetweenUptoSaid : Prop := mimetypeBetweenUptoRow.holds Try.pinned (OpenSpec.upto mimetypeBetweenSpec)

/-- 'winklelaw13.MimetypeTokens', WHERE WHAT IT READS IS OF BULK AT MOST 1048576: true; the input reads as it did. -/
def mimetypeTokensUptoRow : OpenClaim := { program := "ytodidfdfbanliaa", sum := "6c993154d07d8408d9a0ee4a85636231bbc2406379f6bdbc253959689a5b6d94", func := "winkle/winklelaw13.MimetypeTokens", spec := "mimetypeTokens", inPlace := ["internal/abi.NoEscape"], unfollowed := true, recurses := true, apart := false, narrowed := true }
def MimetypeTokensUptoSaid : Prop := mimetypeTokensUptoRow.holds Try.pinned (OpenSpec.upto mimetypeTokensSpec)

/-- 'winklelaw19.EntityPlans', WHERE WHAT IT READS IS OF BULK AT MOST 1048576: true; the input reads as it did. -/
def entityPlansUptoRow : OpenClaim := { program := "ytodidfdfbanliaa", sum := "6c993154d07d8408d9a0ee4a85636231bbc2406379f6bdbc253959689a5b6d94", func := "winkle/winklelaw19.EntityPlans", spec := "entityPlans", inPlace := ["internal/abi.NoEscape", "internal/bytealg.IndexByteString"], unfollowed := true, recurses := true, apart := false, narrowed := true }
def EntityPlansUptoSaid : Prop := entityPlansUptoRow.holds Try.pinned (OpenSpec.upto entityPlansSpec)

/-- 'winklelaw19.EntityFirst', WHERE WHAT IT READS IS OF BULK AT MOST 1048576: true; the input reads as it did. -/
def entityFirstUptoRow : OpenClaim := { program := "ytodidfdfbanliaa", sum := "6c993154d07d8408d9a0ee4a85636231bbc2406379f6bdbc253959689a5b6d94", func := "winkle/winklelaw19.EntityFirst", spec := "entityFirst", inPlace := ["internal/abi.NoEscape", "internal/bytealg.IndexByteString"], unfollowed := true, recurses := true, apart := false, narrowed := true }
def EntityFirstUptoSaid : Prop := entityFirstUptoRow.holds Try.pinned (OpenSpec.upto entityFirstSpec)

/-- 'winklelaw19.EntityCapitals', WHERE WHAT IT READS IS OF BULK AT MOST 1048576: true; the input reads as it did. -/
def entityCapitalsUptoRow : OpenClaim := { program := "ytodidfdfbanliaa", sum := "6c993154d07d8408d9a0ee4a85636231bbc2406379f6bdbc253959689a5b6d94", func := "winkle/winklelaw19.EntityCapitals", spec := "entityCapitals", inPlace := ["internal/abi.NoEscape", "internal/bytealg.IndexByteString"], unfollowed := true, recurses := true, apart := false, narrowed := true }
def EntityCapitalsUptoSaid : Prop := entityCapitalsUptoRow.holds Try.pinned (OpenSpec.upto entityCapitalsSpec)

/-- 'winklelaw19.EntityTexts', WHERE WHAT IT READS IS OF BULK AT MOST 1048576: true; the input reads as it did. -/
def entityTextsUptoRow : OpenClaim := { program := "ytodidfdfbanliaa", sum := "6c993154d07d8408d9a0ee4a85636231bbc2406379f6bdbc253959689a5b6d94", func := "winkle/winklelaw19.EntityTexts", spec := "entityTexts", inPlace := ["internal/abi.NoEscape", "internal/bytealg.IndexByteString"], unfollowed := true, recurses := true, apart := false, narrowed := true }
def EntityTextsUptoSaid : Prop := entityTextsUptoRow.holds Try.pinned (OpenSpec.upto entityTextsSpec)

end Rows
end Go.Proofs.Ytodidfdfbanliaa
