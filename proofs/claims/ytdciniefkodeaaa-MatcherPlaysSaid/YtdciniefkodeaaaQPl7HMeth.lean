/- The machine's methods, walked. -/
import Derived.Test.YtdciniefkodeaaaQPl7HBuild
set_option linter.unusedVariables false
set_option linter.unusedSimpArgs false
namespace Go.Proofs.Ytdciniefkodeaaa.PAll
open Go.Sort Go.RowKit Go.Proofs.YtdciniefkodeaaaW.PrintWords Go.Proofs.YtdciniefkodeaaaW.PrintLast Go.Proofs.YtdciniefkodeaaaW.PrintMore
/-- Block pa is the machine that Build makes of these patterns. -/
structure MachAt (w : World) (pa : Nat) (ps : List Wd) : Prop where
  zero : chkW ps = 0
  bytes : BytesOk ps
  auto : AutoAt w pa (ps.length : Int) (longW ps) (trie ps) ps
theorem MachAt.below {w w1 : World} {pa : Nat} {ps : List Wd} (h : MachAt w pa ps) (hb : Below w.heap.size w w1) : MachAt w1 pa ps := ⟨h.zero, h.bytes, h.auto.below hb⟩
theorem trie_bound {ps : List Wd} (h : chkW ps = 0) : 0 < (trie ps).length ∧ (trie ps).length ≤ 2100 := by
  obtain ⟨h1, h2, h3⟩ := chkW_zero h
  refine ⟨List.length_pos_of_mem (trie_closed ps).1, ?_⟩
  have h4 := trie_len ps [[]] (fun q hq => (h3 q hq).2)
  have h5 : ([[]] : List Wd).length = 1 := rfl
  show (ps.foldl layW [[]]).length ≤ 2100
  omega
/-- What a reader finds at a machine. -/
theorem MachAt.reads {w : World} {pa : Nat} {ps : List Wd} (h : MachAt w pa ps) : ∃ gn cn gx : Nat, w.cell? ⟨pa, 0, none⟩ = some (.slice (some ⟨gn, 0, none⟩) (trie ps).length cn) ∧ w.cell? ⟨pa, 1, none⟩ = some (.slice (some ⟨gx, 0, none⟩) (trie ps).length (trie ps).length) ∧
    w.cell? ⟨pa, 2, none⟩ = some (.int .i64 (ps.length : Int)) ∧ w.cell? ⟨pa, 3, none⟩ = some (.int .i64 (longW ps)) ∧
    (∀ s, s < (trie ps).length → w.cell? ⟨gn, s * 5, none⟩ = some (.int .i64 ((parT (trie ps) s : Nat) : Int)) ∧ w.cell? ⟨gn, s * 5 + 1, none⟩ = some (.int .u8 (byT (trie ps) s)) ∧ w.cell? ⟨gn, s * 5 + 2, none⟩ = some (.int .i64 ((depT (trie ps) s : Nat) : Int)) ∧ w.cell? ⟨gn, s * 5 + 3, none⟩ = some (.int .i64 ((flT (trie ps) s : Nat) : Int)) ∧
      ∃ (v : Value) (base : Nat), w.cell? ⟨gn, s * 5 + 4, none⟩ = some v ∧ w.ownsRow base 3 1 v (outsW ps ((trie ps).getD s [])).length (nums .i64 (outsW ps ((trie ps).getD s [])))) ∧
    (∀ s b, s < (trie ps).length → b < 256 → w.cell? ⟨gx, s * 256 + b, none⟩ = some (.int .i32 ((nxT (trie ps) s (b : Int) : Nat) : Int))) := by
  obtain ⟨base, gn, cn, gx, nds, h1, h2, h3, h4, h5, h6⟩ := h.auto
  refine ⟨gn, cn, gx, ?_, ?_, ?_, ?_, fun s hs => ?_, fun s b hs hb => h5.cell hs hb⟩
  · rw [cell_of_row _ _ _ _ _ _ h1]; rfl
  · rw [cell_of_row _ _ _ _ _ _ h1]; rfl
  · rw [cell_of_row _ _ _ _ _ _ h1]; rfl
  · rw [cell_of_row _ _ _ _ _ _ h1]; rfl
  · obtain ⟨x, hx⟩ : ∃ x, nds[s]? = some x := ⟨_, List.getElem?_eq_getElem (by omega)⟩
    obtain ⟨q1, q2, q3, q4, q5⟩ := h4 s x hx
    have hc := fun (j : Nat) (hj : j < 5) => by
      rw [← h3] at h2
      exact h2.cell hx (j := j) hj
    refine ⟨?_, ?_, ?_, ?_, x.out, base, ?_, ?_⟩
    · have := hc 0 (by decide)
      rw [Nat.add_zero] at this
      rw [this, ← q1]; rfl
    · rw [hc 1 (by decide), ← q2]; rfl
    · rw [hc 2 (by decide), ← q3]; rfl
    · rw [hc 3 (by decide), ← q4]; rfl
    · rw [hc 4 (by decide)]; rfl
    · rw [← q5]; exact h2.outs s x hx
/-- Is this the number of a state? -/
def isT (T : List Wd) (s : Int) : Bool := decide (0 ≤ s ∧ s < (T.length : Int))
theorem is_calls (w : World) (pa : Nat) (ps : List Wd) (s : Int) (h : MachAt w pa ps) :
    Calls Try.prog 54 #[.pointer (some ⟨pa, 0, none⟩), .int .i64 s] w fun e w' => e = .returned (.bool (isT (trie ps) s)) ∧ ∃ q, w' = w.drewN q := by
  obtain ⟨gn, cn, gx, c0, _⟩ := h.reads
  unfold isT
  go_enter Try.func54, Try.ntmps54
  by_cases h0 : 0 ≤ s
  · by_cases h1 : s < ((trie ps).length : Int)
    · rw [decide_eq_true ⟨h0, h1⟩]
      go_wp2
      go_ret
      first | exact ⟨rfl, 0, rfl⟩ | exact ⟨rfl, 1, rfl⟩ | exact ⟨rfl, 2, rfl⟩
    · rw [decide_eq_false (fun h => h1 h.2)]
      go_wp2
      go_ret
      first | exact ⟨rfl, 0, rfl⟩ | exact ⟨rfl, 1, rfl⟩ | exact ⟨rfl, 2, rfl⟩
  · rw [decide_eq_false (fun h => h0 h.1)]
    go_wp2
    go_ret
    first | exact ⟨rfl, 0, rfl⟩ | exact ⟨rfl, 1, rfl⟩ | exact ⟨rfl, 2, rfl⟩
theorem states_calls (w : World) (pa : Nat) (ps : List Wd) (h : MachAt w pa ps) : Calls Try.prog 24 #[.pointer (some ⟨pa, 0, none⟩)] w fun e w' => e = .returned (.int .i64 ((trie ps).length : Int)) ∧ ∃ q, w' = w.drewN q := by
  obtain ⟨gn, cn, gx, c0, c1, c2, c3, _⟩ := h.reads
  go_enter Try.func24, Try.ntmps24
  go_wp2
  go_ret
  first | exact ⟨rfl, 0, rfl⟩ | exact ⟨rfl, 1, rfl⟩
theorem isT_true {T : List Wd} {s : Int} (h : isT T s = true) : ∃ k : Nat, s = (k : Int) ∧ k < T.length := by
  unfold isT at h
  have h := of_decide_eq_true h
  exact ⟨s.toNat, by omega, by omega⟩
/-- What Next, Fail, Depth tell. -/
def nextT (ps : List Wd) (s b : Int) : Int := if isT (trie ps) s = true then ((nxT (trie ps) s.toNat b : Nat) : Int) else 0
def outT (ps : List Wd) (s : Int) : List Int := if isT (trie ps) s = true then outsW ps ((trie ps).getD s.toNat []) else []
theorem next_calls (w : World) (pa : Nat) (ps : List Wd) (s b : Int) (h : MachAt w pa ps) (hb : 0 ≤ b ∧ b ≤ 255) : Calls Try.prog 21 #[.pointer (some ⟨pa, 0, none⟩), .int .i64 s, .int .u8 b] w fun e w' => e = .returned (.int .i64 (nextT ps s b)) ∧ ∃ q, w' = w.drewN q := by
  have hi := is_calls w pa ps s h
  obtain ⟨gn, cn, gx, c0, c1, c2, c3, _, c5⟩ := h.reads
  have hlen := (trie_bound h.zero).2
  have hlt := fun k => nx_lt (T := trie ps) h.auto.choose_spec.choose_spec.choose_spec.choose_spec.choose_spec.2.2.2.2.2 k b
  unfold nextT
  cases his : isT (trie ps) s with
  | false =>
    rw [his] at hi
    rw [if_neg (by decide)]
    go_enter Try.func21, Try.ntmps21
    go_wp2_with fail
    refine hi.mono ?_
    rintro e w' ⟨rfl, q, rfl⟩
    go_wp2
    go_ret
    exact ⟨rfl, q, rfl⟩
  | true =>
    rw [his] at hi
    rw [if_pos rfl]
    obtain ⟨k, rfl, hk⟩ := isT_true his
    obtain ⟨bn, rfl⟩ : ∃ bn : Nat, b = (bn : Int) := ⟨b.toNat, by omega⟩
    have hc := c5 k bn hk (by omega)
    rw [Int.toNat_natCast]
    obtain ⟨z, hz⟩ : ∃ z, nxT (trie ps) k (bn : Int) = z := ⟨_, rfl⟩
    have hzl := hlt k
    rw [hz] at hc hzl ⊢
    have hkz : (k : Int) < ((trie ps).length : Int) := by omega
    have hbz : (bn : Int) < 256 := by omega
    have hw : IntKind.i64.wrap (z : Int) = (z : Int) := by rw [IntKind.wrap_i64]; omega
    have HI := Lib.hid hi
    clear hi hlt c5 h his hz
    go_enter Try.func21, Try.ntmps21
    go_wp2_with fail
    refine HI.out.mono ?_
    rintro e w' ⟨rfl, q, rfl⟩
    go_wp2
    go_ret
    exact ⟨rfl, _, rfl⟩
/-- A row of numbers of the call's own. -/
def OwnI (w : World) (base : Nat) (v : Value) (xs : List Int) : Prop := w.ownsRow base 3 1 v xs.length (nums .i64 xs)
theorem clone_calls {w : World} {base : Nat} {v : Value} {xs : List Int} (h : w.ownsRow base 3 1 v xs.length (nums .i64 xs)) (hl : xs.length ≤ 128) : Calls Try.prog 55 #[v] w fun e w' => ∃ v', e = .returned v' ∧ OwnI w' w.heap.size v' xs ∧ Below w.heap.size w w' := by
  rcases h.2 with ⟨rfl, h0⟩ | ⟨g, cap, cur, rfl, hb, hg, hn, hcm, hcs, htk⟩
  · have hx := List.eq_nil_of_length_eq_zero h0
    subst hx
    refine (Try.slices_Clone_int_nil 0 0 w).mono ?_
    rintro e w' ⟨rfl, rfl⟩
    exact ⟨_, rfl, ⟨rfl, .inl ⟨rfl, rfl⟩⟩, Below.refl _ _⟩
  · refine (Try.slices_Clone_int g 0 xs.length cap xs w (Nat.le_refl _) (by omega) (fun j hj => ?_)).mono ?_
    · rw [Nat.zero_add]
      rw [h.cellAt j (by omega)]
      unfold nums
      rw [List.getElem?_map, List.getElem?_eq_getElem hj, List.getD_eq_getElem?_getD, List.getElem?_eq_getElem hj]
      rfl
    · rintro e w' ⟨v', rfl, ho, _, hB⟩
      rw [List.take_length] at ho
      exact ⟨v', rfl, ho, hB⟩
theorem out_calls (w : World) (pa : Nat) (ps : List Wd) (s : Int) (h : MachAt w pa ps) : Calls Try.prog 22 #[.pointer (some ⟨pa, 0, none⟩), .int .i64 s] w fun e w' => ∃ v, e = .returned v ∧ OwnI w' w.heap.size v (outT ps s) ∧ Below w.heap.size w w' := by
  have hi := is_calls w pa ps s h
  obtain ⟨gn, cn, gx, c0, c1, c2, c3, c4, c5⟩ := h.reads
  have hlen := (trie_bound h.zero).2
  have hpl := (chkW_zero h.zero).2.1
  unfold outT
  cases his : isT (trie ps) s with
  | false =>
    rw [his] at hi
    rw [if_neg (by decide)]
    go_enter Try.func22, Try.ntmps22
    go_wp2_with fail
    refine hi.mono ?_
    rintro e w' ⟨rfl, q, rfl⟩
    go_wp2
    go_ret
    exact ⟨_, rfl, ⟨rfl, .inl ⟨rfl, rfl⟩⟩, below_drewN' (Below.refl _ _) q⟩
  | true =>
    rw [his] at hi
    rw [if_pos rfl]
    obtain ⟨k, rfl, hk⟩ := isT_true his
    obtain ⟨d0, d1, d2, d3, v, base, d4, hown⟩ := c4 k hk
    rw [Int.toNat_natCast]
    have hkz : (k : Int) < ((trie ps).length : Int) := by omega
    have HI := Lib.hid hi
    have hcl := fun q => clone_calls (w := w.drewN q) (base := base) (v := v) (xs := outsW ps ((trie ps).getD k [])) hown (Nat.le_trans (outs_len hpl _).1 (by omega))
    have HCL := Lib.hid hcl
    clear hi c4 c5 h his hcl hown
    go_enter Try.func22, Try.ntmps22
    go_wp2_with fail
    refine HI.out.mono ?_
    rintro e w' ⟨rfl, q, rfl⟩
    go_wp2_with fail

    refine (HCL.out _).mono ?_
    rintro e w' ⟨v', rfl, hO, hB⟩
    have HO := Lib.hid hO
    have HB := Lib.hid hB
    clear hO hB
    go_wp2
    go_ret
    exact ⟨_, rfl, HO.out, (below_drewN' (Below.refl w.heap.size w) q).trans (show Below w.heap.size (w.drewN q) w' from HB.out)⟩
/-- A row of bytes of the call's own. -/
def OwnB (w : World) (base : Nat) (v : Value) (xs : Wd) : Prop := w.ownsRow base 5 1 v xs.length (nums .u8 xs)
theorem info5 : (Try.prog.info? 5).map (fun i => (i.zero, i.size, i.bytes)) = some (some (.int .u8 0), 1, 1) := by kernel_rfl
end Go.Proofs.Ytdciniefkodeaaa.PAll
