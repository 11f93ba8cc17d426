/- Layer 6's awake answers yes. -/
import Derived.Lib.SmallJoins
import Derived.Test.YtdciniefkodeaaaQPl7HMeth
import Derived.Test.YtdciniefkodeaaaQPl7FInts
set_option linter.unusedVariables false
set_option linter.unusedSimpArgs false
namespace Go.Proofs.Ytdciniefkodeaaa.PAll
open Go.Sort Go.RowKit Go.Proofs.YtdciniefkodeaaaW.PrintWords Go.Proofs.YtdciniefkodeaaaW.PrintLast Go.Proofs.YtdciniefkodeaaaW.PrintMore
theorem below_of_drew {w w' : World} (h : ∃ q, w' = w.drewN q) : Below w.heap.size w w' := by
  obtain ⟨q, rfl⟩ := h
  exact below_drewN' (Below.refl _ _) q
theorem C_of_block {W : World} {g n : Nat} {fr : Nat × Nat} {cur : Array Value} {xs : Wd} (hg : W.heap[g]? = some (.cells cur 5 fr)) (hl : xs.length = n) (hn : n ≤ 4096) (h : ∀ j, j < n → cur[j]? = some (.int .u8 (xs.getD j 0))) : (Kd.int .u8).C W (some ⟨g, 0, none⟩) n xs :=
  Kd.C_of_reads (d := (0 : Int)) (h1 := fun _ => rfl) ⟨hl, by omega, fun _ => ⟨_, rfl, fun j hj => by
    rw [Go.WideShapes.add_plain, Nat.zero_add, cell_of_row _ _ _ _ _ _ hg]
    exact h j hj⟩⟩
/-- "he", "she", "his", "hers". -/
def awps : List Wd := [[104, 101], [115, 104, 101], [104, 105, 115], [104, 101, 114, 115]]
def aw0 : Array Value := #[.int .u8 104, .int .u8 101]
def aw1 : Array Value := #[.int .u8 115, .int .u8 104, .int .u8 101]
def aw2 : Array Value := #[.int .u8 104, .int .u8 105, .int .u8 115]
def aw3 : Array Value := #[.int .u8 104, .int .u8 101, .int .u8 114, .int .u8 115]
def awW1 (w : World) : World := w.alloc (.cells aw0 5 (2, 3))
def awW2 (w : World) : World := (awW1 w).alloc (.cells aw1 5 (3, 4))
def awW3 (w : World) : World := (awW2 w).alloc (.cells aw2 5 (3, 4))
def awW4 (w : World) : World := (awW3 w).alloc (.cells aw3 5 (4, 5))
def awW5 (w : World) : World := (awW4 w).alloc (.cells #[.slice (some ⟨w.heap.size, 0, none⟩) 2 2, .slice (some ⟨w.heap.size + 1, 0, none⟩) 3 3, .slice (some ⟨w.heap.size + 2, 0, none⟩) 3 3, .slice (some ⟨w.heap.size + 3, 0, none⟩) 4 4] 32)
theorem aw_chk : chkW awps = 0 := by kernel_rfl
theorem aw_bytes : BytesOk awps := by
  have : ∀ x ∈ awps, ∀ b ∈ x, 0 ≤ b ∧ b ≤ 255 := by decide
  exact this
theorem aw_size (w : World) : (awW1 w).heap.size = w.heap.size + 1 ∧ (awW2 w).heap.size = w.heap.size + 2 ∧ (awW3 w).heap.size = w.heap.size + 3 ∧ (awW4 w).heap.size = w.heap.size + 4 := by
  unfold awW4 awW3 awW2 awW1
  simp
theorem aw_below (w : World) : Below w.heap.size w (awW5 w) := by
  obtain ⟨s1, s2, s3, s4⟩ := aw_size w
  exact (((((Below.refl _ w).alloc (Nat.le_refl _) _).alloc (by have := s1; unfold awW1 at this; omega) _).alloc (by have := s2; unfold awW2 awW1 at this; omega) _).alloc (by have := s3; unfold awW3 awW2 awW1 at this; omega) _).alloc (by have := s4; unfold awW4 awW3 awW2 awW1 at this; omega) _
theorem aw_reads (w : World) : (Kd.slice 5 (Kd.int .u8)).C (awW5 w) (some ⟨w.heap.size + 4, 0, none⟩) 4 awps := by
  obtain ⟨s1, s2, s3, s4⟩ := aw_size w
  have k : ∀ (W : World) (o : Obj) (j : Nat), j < W.heap.size → (W.alloc o).heap[j]? = W.heap[j]? := fun W o j hj => Below.heap_alloc W o j hj
  have b0 : (awW5 w).heap[w.heap.size]? = some (.cells aw0 5 (2, 3)) := by
    unfold awW5; rw [k _ _ _ (by omega)]
    unfold awW4; rw [k _ _ _ (by omega)]
    unfold awW3; rw [k _ _ _ (by omega)]
    unfold awW2; rw [k _ _ _ (by omega)]
    exact heap_alloc_new w _
  have b1 : (awW5 w).heap[w.heap.size + 1]? = some (.cells aw1 5 (3, 4)) := by
    unfold awW5; rw [k _ _ _ (by omega)]
    unfold awW4; rw [k _ _ _ (by omega)]
    unfold awW3; rw [k _ _ _ (by omega)]
    rw [← s1]; exact heap_alloc_new (awW1 w) _
  have b2 : (awW5 w).heap[w.heap.size + 2]? = some (.cells aw2 5 (3, 4)) := by
    unfold awW5; rw [k _ _ _ (by omega)]
    unfold awW4; rw [k _ _ _ (by omega)]
    rw [← s2]; exact heap_alloc_new (awW2 w) _
  have b3 : (awW5 w).heap[w.heap.size + 3]? = some (.cells aw3 5 (4, 5)) := by
    unfold awW5; rw [k _ _ _ (by omega)]
    rw [← s3]; exact heap_alloc_new (awW3 w) _
  have b4 := heap_alloc_new (awW4 w) (.cells #[.slice (some ⟨w.heap.size, 0, none⟩) 2 2, .slice (some ⟨w.heap.size + 1, 0, none⟩) 3 3, .slice (some ⟨w.heap.size + 2, 0, none⟩) 3 3, .slice (some ⟨w.heap.size + 3, 0, none⟩) 4 4] 32)
  rw [s4] at b4
  refine ⟨rfl, by omega, fun _ => ⟨_, rfl, fun j p hp => ?_⟩⟩
  have hcell : ∀ (i : Nat) (u : Value), (#[.slice (some ⟨w.heap.size, 0, none⟩) 2 2, .slice (some ⟨w.heap.size + 1, 0, none⟩) 3 3, .slice (some ⟨w.heap.size + 2, 0, none⟩) 3 3, .slice (some ⟨w.heap.size + 3, 0, none⟩) 4 4] : Array Value)[i]? = some u → (awW5 w).cell? (Addr.add ⟨w.heap.size + 4, 0, none⟩ i) = some u := fun i u hu => by
    rw [Go.WideShapes.add_plain, Nat.zero_add, cell_of_row (awW5 w) _ _ _ _ _ b4]
    exact hu
  have one : ∀ (i : Nat) (A : Option Addr) (n : Nat) (q : Wd), (#[.slice (some ⟨w.heap.size, 0, none⟩) 2 2, .slice (some ⟨w.heap.size + 1, 0, none⟩) 3 3, .slice (some ⟨w.heap.size + 2, 0, none⟩) 3 3, .slice (some ⟨w.heap.size + 3, 0, none⟩) 4 4] : Array Value)[i]? = some (.slice A n n) → q.length = n → (Kd.int .u8).C (awW5 w) A n q → ∃ c : List Value, c.length = (Kd.slice 5 (Kd.int .u8)).sz ∧ (Kd.slice 5 (Kd.int .u8)).K (awW5 w) q c ∧ ∀ i' u, c[i']? = some u → (awW5 w).cell? (Addr.add ⟨w.heap.size + 4, 0, none⟩ (i * (Kd.slice 5 (Kd.int .u8)).sz + i')) = some u := fun i A n q h1 h2 h3 => by
    subst h2
    refine ⟨[.slice A q.length q.length], rfl, ⟨A, q.length, rfl, Nat.le_refl _, h3⟩, fun i' u hu => ?_⟩
    match i', hu with
    | 0, hu =>
      obtain rfl : Value.slice A q.length q.length = u := by simpa using hu
      rw [show i * (Kd.slice 5 (Kd.int .u8)).sz + 0 = i from by show i * 1 + 0 = i; omega]
      exact hcell i _ h1
    | i' + 1, hu => simp at hu
  match j, hp with
  | 0, hp =>
    obtain rfl : ([104, 101] : Wd) = p := Option.some.inj hp
    exact one 0 _ 2 _ rfl rfl (C_of_block b0 rfl (by decide) (fun j hj => by match j, hj with | 0, _ => rfl | 1, _ => rfl))
  | 1, hp =>
    obtain rfl : ([115, 104, 101] : Wd) = p := Option.some.inj hp
    exact one 1 _ 3 _ rfl rfl (C_of_block b1 rfl (by decide) (fun j hj => by match j, hj with | 0, _ => rfl | 1, _ => rfl | 2, _ => rfl))
  | 2, hp =>
    obtain rfl : ([104, 105, 115] : Wd) = p := Option.some.inj hp
    exact one 2 _ 3 _ rfl rfl (C_of_block b2 rfl (by decide) (fun j hj => by match j, hj with | 0, _ => rfl | 1, _ => rfl | 2, _ => rfl))
  | 3, hp =>
    obtain rfl : ([104, 101, 114, 115] : Wd) = p := Option.some.inj hp
    exact one 3 _ 4 _ rfl rfl (C_of_block b3 rfl (by decide) (fun j hj => by match j, hj with | 0, _ => rfl | 1, _ => rfl | 2, _ => rfl | 3, _ => rfl))
  | j + 4, hp => cases hp
theorem aw_conv (w : World) :
    (convert 32 32 (.slice (some ⟨w.heap.size, 0, none⟩) 2 2)).run Try.prog (w.alloc (.cells #[.int .u8 104, .int .u8 101] 5)) = .ok (.slice (some ⟨w.heap.size, 0, none⟩) 2 2) (awW1 w) ∧
    (convert 32 32 (.slice (some ⟨w.heap.size + 1, 0, none⟩) 3 3)).run Try.prog ((awW1 w).alloc (.cells #[.int .u8 115, .int .u8 104, .int .u8 101] 5)) = .ok (.slice (some ⟨w.heap.size + 1, 0, none⟩) 3 3) (awW2 w) ∧
    (convert 32 32 (.slice (some ⟨w.heap.size + 2, 0, none⟩) 3 3)).run Try.prog ((awW2 w).alloc (.cells #[.int .u8 104, .int .u8 105, .int .u8 115] 5)) = .ok (.slice (some ⟨w.heap.size + 2, 0, none⟩) 3 3) (awW3 w) ∧
    (convert 32 32 (.slice (some ⟨w.heap.size + 3, 0, none⟩) 4 4)).run Try.prog ((awW3 w).alloc (.cells #[.int .u8 104, .int .u8 101, .int .u8 114, .int .u8 115] 5)) = .ok (.slice (some ⟨w.heap.size + 3, 0, none⟩) 4 4) (awW4 w) := by
  obtain ⟨s1, s2, s3, s4⟩ := aw_size w
  exact ⟨Joins.run_convert_bytes_const_at w 32 5 aw0 2 2 _ rfl Try.underlying32 Try.underlying5, Joins.run_convert_bytes_const_at (awW1 w) 32 5 aw1 3 3 _ s1.symm Try.underlying32 Try.underlying5, Joins.run_convert_bytes_const_at (awW2 w) 32 5 aw2 3 3 _ s2.symm Try.underlying32 Try.underlying5, Joins.run_convert_bytes_const_at (awW3 w) 32 5 aw3 4 4 _ s3.symm Try.underlying32 Try.underlying5⟩
/-- Build on the four patterns, and what comes back. -/
theorem aw_build (w : World) : Calls Try.prog 17 #[.slice (some ⟨w.heap.size + 4, 0, none⟩) 4 4] (awW5 w) fun e w' => Below w.heap.size w w' ∧ ∃ pa, e = .returned (.tuple #[.pointer (some ⟨pa, 0, none⟩), .int .i64 0]) ∧ MachAt w' pa awps := by
  refine (build_calls (awW5 w) _ 4 4 awps (aw_reads w) (Nat.le_refl _) aw_bytes).mono ?_
  rintro e w' ⟨hb, h⟩
  have hs := (aw_below w).size
  refine ⟨(aw_below w).trans (hb.mono hs), ?_⟩
  rcases h with ⟨h1, _⟩ | ⟨h1, pa, _, rfl, hA⟩
  · exact absurd aw_chk h1
  · exact ⟨pa, rfl, ⟨aw_chk, aw_bytes, hA⟩⟩
theorem own_ints_reads {w : World} {base : Nat} {v : Value} {xs : List Int} (h : OwnI w base v xs) : ∃ A c, v = .slice A xs.length c ∧ xs.length ≤ c ∧ (Kd.int .i64).C w A xs.length xs :=
  Kd.R_reads (Kd.R_of_own (h1 := fun _ => rfl) (ok := fun _ => True) h (fun _ _ => trivial))
end Go.Proofs.Ytdciniefkodeaaa.PAll
