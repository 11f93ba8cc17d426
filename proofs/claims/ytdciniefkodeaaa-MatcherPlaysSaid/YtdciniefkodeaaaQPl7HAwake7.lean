/- Layer 7's awake; a matcher that is not there. -/
import Derived.Test.YtdciniefkodeaaaQPl7HAll
import Derived.Test.YtdciniefkodeaaaQPl7FSame7
set_option linter.unusedVariables false
set_option linter.unusedSimpArgs false
namespace Go.Proofs.Ytdciniefkodeaaa.PAll
open Go.Sort Go.RowKit Go.Proofs.YtdciniefkodeaaaW.PrintWords Go.Proofs.YtdciniefkodeaaaW.PrintLast Go.Proofs.YtdciniefkodeaaaW.PrintMore
/-- A hit as the reference has it. -/
def toS (h : Int × Int) : S49 := ⟨h.1, [], h.2⟩
theorem flatH_get : ∀ (hs : List (Int × Int)) (i j : Nat) (h : Int × Int), hs[i]? = some h → j < 3 → (flatH hs)[i * 3 + j]? = (hitC h.1 h.2)[j]?
  | [], i, j, h, hh, _ => by simp at hh
  | y :: l, 0, j, h, hh, hj => by
    obtain rfl : y = h := by simpa using hh
    rw [Nat.zero_mul, Nat.zero_add]
    match j, hj with
    | 0, _ => rfl
    | 1, _ => rfl
    | 2, _ => rfl
  | y :: l, i + 1, j, h, hh, hj => by
    show (hitC y.1 y.2 ++ flatH l)[(i + 1) * 3 + j]? = _
    rw [List.getElem?_append_right (by show 3 ≤ _; omega), show (i + 1) * 3 + j - (hitC y.1 y.2).length = i * 3 + j from by show (i + 1) * 3 + j - 3 = _; omega]
    exact flatH_get l i j h (by simpa using hh) hj
theorem hits_reads {w : World} {base : Nat} {v : Value} {hs : List (Int × Int)} (h : w.ownsRow base 49 3 v hs.length (flatH hs)) (hl : hs.length ≤ 67108864) : ∃ A c, v = .slice A (hs.map toS).length c ∧ (hs.map toS).length ≤ c ∧ Kd.C k49 w A (hs.map toS).length (hs.map toS) := by
  rw [List.length_map]
  rcases h.2 with ⟨rfl, h0⟩ | ⟨g, cap, cur, rfl, hb, hg, hn, hcm, hcs, htk⟩
  · have hx := List.eq_nil_of_length_eq_zero h0
    subst hx
    exact ⟨none, 0, rfl, Nat.le_refl _, rfl, by decide, fun h => absurd h (Nat.lt_irrefl 0)⟩
  · refine ⟨some ⟨g, 0, none⟩, cap, rfl, hn, by rw [List.length_map], by omega, fun _ => ⟨_, rfl, fun j p hj => ?_⟩⟩
    rw [List.getElem?_map] at hj
    obtain ⟨x, hx, rfl⟩ := Option.map_eq_some_iff.1 hj
    refine ⟨hitC x.1 x.2, rfl, k49_mk w (toS x) (A1 := none) (c1 := 0) (Nat.le_refl _) ⟨rfl, Nat.zero_le _, fun h => absurd h (Nat.lt_irrefl 0)⟩, fun i u hu => ?_⟩
    have hi : i < 3 := (List.getElem?_eq_some_iff.1 hu).1
    have hjl := (List.getElem?_eq_some_iff.1 hx).1
    rw [Go.WideShapes.add_plain, Nat.zero_add]
    show w.cell? ⟨g, j * 3 + i, none⟩ = some u
    rw [h.cellAt (j * 3 + i) (by omega), flatH_get hs j i x hx hi]
    exact hu
def awx : Wd := [117, 115, 104, 101, 114, 115]
def awxc : Array Value := #[.int .u8 117, .int .u8 115, .int .u8 104, .int .u8 101, .int .u8 114, .int .u8 115]
theorem awx_conv (w : World) : (convert 32 32 (.slice (some ⟨w.heap.size, 0, none⟩) 6 6)).run Try.prog (w.alloc (.cells #[.int .u8 117, .int .u8 115, .int .u8 104, .int .u8 101, .int .u8 114, .int .u8 115] 5)) = .ok (.slice (some ⟨w.heap.size, 0, none⟩) 6 6) (w.alloc (.cells awxc 5 (6, 7))) :=
  Joins.run_convert_bytes_const_at w 32 5 awxc 6 6 _ rfl Try.underlying32 Try.underlying5
theorem awx_reads (w : World) : TxAt (w.alloc (.cells awxc 5 (6, 7))) (some ⟨w.heap.size, 0, none⟩) 6 awx :=
  ⟨C_of_block (heap_alloc_new w _) rfl (by decide) (fun j hj => by match j, hj with | 0, _ => rfl | 1, _ => rfl | 2, _ => rfl | 3, _ => rfl | 4, _ => rfl | 5, _ => rfl), Nat.le_refl _, by decide, by decide⟩
theorem awx_all : allW awps awx 9 = ([(0, 4), (1, 4), (3, 6)], true) := by kernel_rfl
end Go.Proofs.Ytdciniefkodeaaa.PAll
