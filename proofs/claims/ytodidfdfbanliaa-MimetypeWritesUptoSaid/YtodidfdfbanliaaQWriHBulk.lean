/- What an argument's bulk says of a slice's length and a text's length. -/
import Derived.ChangeSlices
import Derived.WalkKit
import Derived.OpenShut
import Derived.Test.YtodidfdfbanliaaRows
namespace Go.Proofs.Ytodidfdfbanliaa.Bulk
open Go.ChangeShapes Go.WideShapes
theorem one_le {H : Type} (d : DataW H) : 1 ≤ Rows.uptoBulk d := by
  cases d with
  | lit l => cases l <;> simp [Rows.uptoBulk]
  | nil => simp [Rows.uptoBulk]
  | ptr d => simp [Rows.uptoBulk]
  | slice elems spare => simp [Rows.uptoBulk]
  | agg parts => simp [Rows.uptoBulk]
  | iface t d => simp [Rows.uptoBulk]
  | map entries => simp [Rows.uptoBulk]
  | held h => simp [Rows.uptoBulk]
theorem part_le {H : Type} {d : DataW H} {l : List (DataW H)} (h : d ∈ l) : Rows.uptoBulk d ≤ Rows.uptoBulkAll l := by
  induction l with
  | nil => cases h
  | cons x r ih =>
    simp only [Rows.uptoBulkAll]
    cases List.mem_cons.1 h with
    | inl e => subst e; omega
    | inr e => have := ih e; omega
theorem length_le {H : Type} (l : List (DataW H)) : l.length ≤ Rows.uptoBulkAll l := by
  induction l with
  | nil => simp [Rows.uptoBulkAll]
  | cons x r ih => have := one_le x; simp only [Rows.uptoBulkAll, List.length_cons]; omega
/-- A text is no longer than the bulk. -/
theorem text {H : Type} {a : ByteArray} {ds : List (DataW H)} (hk : Rows.uptoSmall H ds = true) (hd : .lit (.string a.data.toList) ∈ ds) : a.size ≤ 1048576 := by
  have hb : Rows.uptoBulkAll ds ≤ 1048576 := of_decide_eq_true hk
  have hp := part_le hd
  simp only [Rows.uptoBulk, Array.length_toList] at hp
  have e : a.data.size = a.size := rfl
  omega
end Go.Proofs.Ytodidfdfbanliaa.Bulk
