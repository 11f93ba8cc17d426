/- A string's bytes as a new row ('[]byte(s)'): the row's block as it is read, written and made a string again. -/
import Derived.Lib.ConvBytes
import Derived.Test.YtodidfdfbanliaaQCapHPure
import Derived.Test.YtodidfdfbanliaaQCapPAllx0
set_option linter.unusedVariables false
namespace Go.Proofs.Ytodidfdfbanliaa.PAll
open Go.RowKit Go.Proofs.YtodidfdfbanliaaW.PrintWords
/-- Block B is a row of bytes of capacity cap that begins with l, marked as a conversion's. -/
def BytesAt (w : World) (B cap : Nat) (l : List UInt8) : Prop :=
  ∃ cur : Array Value, w.heap[B]? = some (.cells cur 5 (cap, cap + 1)) ∧ cur.size = cap ∧ l.length ≤ cap ∧ ∀ i (hi : i < l.length), cur[i]? = some (.int .u8 (l[i].toNat : Int))
theorem BytesAt.made (w : World) (s : ByteArray) (h : s.size ≤ grownCap w s.size 0 5) : BytesAt (Lib.bytesWorld w 5 s) w.heap.size (grownCap w s.size 0 5) s.data.toList := by
  have hsz : (Lib.bytesCells w 5 s).size = grownCap w s.size 0 5 := by
    have : s.data.size = s.size := rfl
    simp [Lib.bytesCells]; omega
  refine ⟨Lib.bytesCells w 5 s, ?_, hsz, by simpa using h, fun i hi => ?_⟩
  · rw [Lib.bytesWorld_at_new, hsz]
  · have hi' : i < s.data.size := by simpa using hi
    have h2 : i < s.size := hi'
    simp [Lib.bytesCells, Array.getElem?_append, h2]
theorem BytesAt.cell {w : World} {B cap : Nat} {l : List UInt8} (h : BytesAt w B cap l) (i : Nat) (hi : i < l.length) : w.cell? ⟨B, i, none⟩ = some (.int .u8 (l[i].toNat : Int)) := by
  obtain ⟨cur, hb, hs, hc, hl⟩ := h
  simp [World.cell?, hb, hl i hi]
theorem BytesAt.frozen {w : World} {B cap : Nat} {l : List UInt8} (h : BytesAt w B cap l) (i : Nat) (hi : i < l.length) : w.frozen? ⟨B, i, none⟩ = false := by
  obtain ⟨cur, hb, hs, hc, hl⟩ := h
  simp [World.frozen?, hb]; omega
theorem BytesAt.set {w : World} {B cap : Nat} {l : List UInt8} (h : BytesAt w B cap l) (i : Nat) (hi : i < l.length) (c : UInt8) : BytesAt (w.setCell ⟨B, i, none⟩ (.int .u8 (c.toNat : Int))) B cap (l.set i c) := by
  obtain ⟨cur, hb, hs, hc, hl⟩ := h
  refine ⟨cur.setIfInBounds i (.int .u8 (c.toNat : Int)), ?_, by simpa using hs, by simpa using hc, fun j hj => ?_⟩
  · simp [World.setCell, Array.getElem?_modify, hb]
  · rw [Array.getElem?_setIfInBounds]
    by_cases e : i = j
    · subst e; simp [hs]; omega
    · have hj' : j < l.length := by simpa using hj
      simp [e, hl j hj']
theorem BytesAt.reads {w : World} {B cap : Nat} {l : List UInt8} (h : BytesAt w B cap l) (hl : l.length ≤ 9223372036854775807) : Kd.C (Kd.int .u8) w (some ⟨B, 0, none⟩) l.length (l.map fun c => (c.toNat : Int)) := by
  refine Kd.C_of_reads (d := (0 : Int)) (h1 := fun _ => rfl) ⟨by simp, hl, fun hn => ⟨_, rfl, fun j hj => ?_⟩⟩
  rw [add_plain, h.cell j hj]
  simp [List.getD_eq_getElem?_getD, hj]
theorem below_bytes (w : World) (s : ByteArray) : Below w.heap.size w (Lib.bytesWorld w 5 s) :=
  ⟨rfl, rfl, rfl, by rw [Lib.bytesWorld_size]; omega, fun k hk => Lib.bytesWorld_at_old w 5 s k hk⟩
end Go.Proofs.Ytodidfdfbanliaa.PAll
