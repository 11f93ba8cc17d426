/- A string's bytes as a new row ('[]byte(s)'): the row's block as it is read, written and made a string again. -/
import Derived.Lib.ConvBytes
import Derived.Test.YtodidfdfbanliaaQWriHPure
import Derived.Test.YtodidfdfbanliaaQWriPAllx0
set_option linter.unusedVariables false
namespace Go.Proofs.Ytodidfdfbanliaa.PAll
open Go.RowKit Go.Proofs.YtodidfdfbanliaaW.PrintWords
/-- Block B is a row of bytes of capacity cap that begins with l, marked as a conversion's. -/
def BytesAt (w : World) (B cap : Nat) (l : List UInt8) : Prop :=
  ∃ cur : Array Value, w.heap[B]? = some (.cells cur 5 (cap, cap + 1)) ∧ cur.size = cap ∧ l.length ≤ cap ∧ ∀ i (hi : i < l.length), cur[i]? = some (.int .u8 (l[i].toNat : Int))
theorem BytesAt.made (w : World) (s : ByteArray) (h : s.size ≤ grownCap w s.size 0 5) : BytesAt (Lib.bytesWorld w 5 s) w.heap.size (grownCap w s.size 0 5) s.data.toList := by
  have hsz : (Lib.bytesCells w 5 s).size = grownCap w s.size 0 5 := by
    have : s.data.size = s.size := rfl
    simp [Lib.bytesCells]; omega
  refine ⟨Lib.bytesCells w 5 s, ?_, hsz, by simpa using h, fun i hi => ?_⟩
  · rw [Lib.bytesWorld_at_new, hsz]
  · have hi' : i < s.data.size := by simpa using hi
    have h2 : i < s.size := hi'
    simp [Lib.bytesCells, Array.getElem?_append, h2]
theorem below_bytes (w : World) (s : ByteArray) : Below w.heap.size w (Lib.bytesWorld w 5 s) :=
  ⟨rfl, rfl, rfl, by rw [Lib.bytesWorld_size]; omega, fun k hk => Lib.bytesWorld_at_old w 5 s k hk⟩
end Go.Proofs.Ytodidfdfbanliaa.PAll
