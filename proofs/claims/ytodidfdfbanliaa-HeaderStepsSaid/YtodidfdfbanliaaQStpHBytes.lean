/- A string's bytes as a new row ('[]byte(s)'): the row's block as it is read, written and made a string again. -/
import Derived.Lib.ConvBytes
import Derived.Test.YtodidfdfbanliaaQStpHPure
import Derived.Test.YtodidfdfbanliaaQStpPAllx0
set_option linter.unusedVariables false
namespace Go.Proofs.Ytodidfdfbanliaa.PAll
open Go.RowKit Go.Proofs.YtodidfdfbanliaaW.PrintWords
/-- Block B is a row of bytes of capacity cap that begins with l, marked as a conversion's. -/
def BytesAt (w : World) (B cap : Nat) (l : List UInt8) : Prop :=
  ∃ cur : Array Value, w.heap[B]? = some (.cells cur 5 (cap, cap + 1)) ∧ cur.size = cap ∧ l.length ≤ cap ∧ ∀ i (hi : i < l.length), cur[i]? = some (.int .u8 (l[i].toNat : Int))
theorem BytesAt.cell {w : World} {B cap : Nat} {l : List UInt8} (h : BytesAt w B cap l) (i : Nat) (hi : i < l.length) : w.cell? ⟨B, i, none⟩ = some (.int .u8 (l[i].toNat : Int)) := by
  obtain ⟨cur, hb, hs, hc, hl⟩ := h
  simp [World.cell?, hb, hl i hi]
theorem BytesAt.reads {w : World} {B cap : Nat} {l : List UInt8} (h : BytesAt w B cap l) (hl : l.length ≤ 9223372036854775807) : Kd.C (Kd.int .u8) w (some ⟨B, 0, none⟩) l.length (l.map fun c => (c.toNat : Int)) := by
  refine Kd.C_of_reads (d := (0 : Int)) (h1 := fun _ => rfl) ⟨by simp, hl, fun hn => ⟨_, rfl, fun j hj => ?_⟩⟩
  rw [add_plain, h.cell j hj]
  simp [List.getD_eq_getElem?_getD, hj]
end Go.Proofs.Ytodidfdfbanliaa.PAll
