/- Plain words on texts: small letters, tokens, how a value is written. -/
import Derived.Test.YtodidfdfbanliaaQStpHTrimP
namespace Go.Proofs.Ytodidfdfbanliaa.PAll
def lowC (c : UInt8) : UInt8 := if 65 ≤ c ∧ c ≤ 90 then c + 32 else c
def lowL (l : List UInt8) : List UInt8 := l.map lowC
theorem toList_size (s : ByteArray) : s.data.toList.length = s.size := by simp
end Go.Proofs.Ytodidfdfbanliaa.PAll
