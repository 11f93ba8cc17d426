/- A type that is written is read back: in plain words; and what Text comes to. -/
import Derived.Lib.Hide
import Derived.Test.YtodidfdfbanliaaQWriHType
import Derived.Test.YtodidfdfbanliaaQWriHSem1
set_option linter.unusedVariables false
set_option linter.unusedSimpArgs false
namespace Go.Proofs.Ytodidfdfbanliaa.PAll
open Go.RowKit Go.Proofs.YtodidfdfbanliaaW.PrintWords Go.Proofs.YtodidfdfbanliaaW.PrintLast Go.Proofs.YtodidfdfbanliaaW.PrintMore
/-- A token in small letters? -/
def goodL (l : List UInt8) : Bool := tokL l && (lowL l == l)
/-- A parameter's text. -/
def parL (p : S42) : List UInt8 := [59, 32] ++ p.f0.data.toList ++ [61] ++ writtenL p.f1.data.toList
def parsL (l : List S42) : List UInt8 := l.flatMap parL
def textL (m u : ByteArray) (l : List S42) : List UInt8 := m.data.toList ++ [47] ++ u.data.toList ++ parsL l
def textB (m u : ByteArray) (l : List S42) : ByteArray := ⟨(textL m u l).toArray⟩
def goodT (m u : ByteArray) (l : List S42) : Bool := goodL m.data.toList && goodL u.data.toList && l.all fun p => goodL p.f0.data.toList
end Go.Proofs.Ytodidfdfbanliaa.PAll
