/- The machine's methods, walked. -/
import Derived.Test.YtdciniefkodeaaaQBu6HBuild
set_option linter.unusedVariables false
set_option linter.unusedSimpArgs false
namespace Go.Proofs.Ytdciniefkodeaaa.PAll
open Go.Sort Go.RowKit Go.Proofs.YtdciniefkodeaaaW.PrintWords Go.Proofs.YtdciniefkodeaaaW.PrintLast Go.Proofs.YtdciniefkodeaaaW.PrintMore
/-- Block pa is the machine that Build makes of these patterns. -/
structure MachAt (w : World) (pa : Nat) (ps : List Wd) : Prop where
  zero : chkW ps = 0
  bytes : BytesOk ps
  auto : AutoAt w pa (ps.length : Int) (longW ps) (trie ps) ps
theorem MachAt.below {w w1 : World} {pa : Nat} {ps : List Wd} (h : MachAt w pa ps) (hb : Below w.heap.size w w1) : MachAt w1 pa ps := ⟨h.zero, h.bytes, h.auto.below hb⟩
theorem trie_bound {ps : List Wd} (h : chkW ps = 0) : 0 < (trie ps).length ∧ (trie ps).length ≤ 2100 := by
  obtain ⟨h1, h2, h3⟩ := chkW_zero h
  refine ⟨List.length_pos_of_mem (trie_closed ps).1, ?_⟩
  have h4 := trie_len ps [[]] (fun q hq => (h3 q hq).2)
  have h5 : ([[]] : List Wd).length = 1 := rfl
  show (ps.foldl layW [[]]).length ≤ 2100
  omega
theorem word_bound {ps : List Wd} (h : chkW ps = 0) (hb : BytesOk ps) {x : Wd} (hx : x ∈ trie ps) : x.length ≤ 32 ∧ ∀ b ∈ x, 0 ≤ b ∧ b ≤ 255 := by
  obtain ⟨h1, h2, h3⟩ := chkW_zero h
  rcases (mem_trie ps x).1 hx with rfl | ⟨p, hp, hpre⟩
  · exact ⟨Nat.zero_le _, fun b hb => by cases hb⟩
  · exact ⟨Nat.le_trans hpre.length_le (h3 p hp).2, fun b hbx => hb p hp b (hpre.subset hbx)⟩
/-- What a reader finds at a machine. -/
theorem MachAt.reads {w : World} {pa : Nat} {ps : List Wd} (h : MachAt w pa ps) : ∃ gn cn gx : Nat, w.cell? ⟨pa, 0, none⟩ = some (.slice (some ⟨gn, 0, none⟩) (trie ps).length cn) ∧ w.cell? ⟨pa, 1, none⟩ = some (.slice (some ⟨gx, 0, none⟩) (trie ps).length (trie ps).length) ∧
    w.cell? ⟨pa, 2, none⟩ = some (.int .i64 (ps.length : Int)) ∧ w.cell? ⟨pa, 3, none⟩ = some (.int .i64 (longW ps)) ∧
    (∀ s, s < (trie ps).length → w.cell? ⟨gn, s * 5, none⟩ = some (.int .i64 ((parT (trie ps) s : Nat) : Int)) ∧ w.cell? ⟨gn, s * 5 + 1, none⟩ = some (.int .u8 (byT (trie ps) s)) ∧ w.cell? ⟨gn, s * 5 + 2, none⟩ = some (.int .i64 ((depT (trie ps) s : Nat) : Int)) ∧ w.cell? ⟨gn, s * 5 + 3, none⟩ = some (.int .i64 ((flT (trie ps) s : Nat) : Int)) ∧
      ∃ (v : Value) (base : Nat), w.cell? ⟨gn, s * 5 + 4, none⟩ = some v ∧ w.ownsRow base 3 1 v (outsW ps ((trie ps).getD s [])).length (nums .i64 (outsW ps ((trie ps).getD s [])))) ∧
    (∀ s b, s < (trie ps).length → b < 256 → w.cell? ⟨gx, s * 256 + b, none⟩ = some (.int .i32 ((nxT (trie ps) s (b : Int) : Nat) : Int))) := by
  obtain ⟨base, gn, cn, gx, nds, h1, h2, h3, h4, h5, h6⟩ := h.auto
  refine ⟨gn, cn, gx, ?_, ?_, ?_, ?_, fun s hs => ?_, fun s b hs hb => h5.cell hs hb⟩
  · rw [cell_of_row _ _ _ _ _ _ h1]; rfl
  · rw [cell_of_row _ _ _ _ _ _ h1]; rfl
  · rw [cell_of_row _ _ _ _ _ _ h1]; rfl
  · rw [cell_of_row _ _ _ _ _ _ h1]; rfl
  · obtain ⟨x, hx⟩ : ∃ x, nds[s]? = some x := ⟨_, List.getElem?_eq_getElem (by omega)⟩
    obtain ⟨q1, q2, q3, q4, q5⟩ := h4 s x hx
    have hc := fun (j : Nat) (hj : j < 5) => by
      rw [← h3] at h2
      exact h2.cell hx (j := j) hj
    refine ⟨?_, ?_, ?_, ?_, x.out, base, ?_, ?_⟩
    · have := hc 0 (by decide)
      rw [Nat.add_zero] at this
      rw [this, ← q1]; rfl
    · rw [hc 1 (by decide), ← q2]; rfl
    · rw [hc 2 (by decide), ← q3]; rfl
    · rw [hc 3 (by decide), ← q4]; rfl
    · rw [hc 4 (by decide)]; rfl
    · rw [← q5]; exact h2.outs s x hx
/-- Is this the number of a state? -/
def isT (T : List Wd) (s : Int) : Bool := decide (0 ≤ s ∧ s < (T.length : Int))
theorem is_calls (w : World) (pa : Nat) (ps : List Wd) (s : Int) (h : MachAt w pa ps) :
    Calls Try.prog 54 #[.pointer (some ⟨pa, 0, none⟩), .int .i64 s] w fun e w' => e = .returned (.bool (isT (trie ps) s)) ∧ ∃ q, w' = w.drewN q := by
  obtain ⟨gn, cn, gx, c0, _⟩ := h.reads
  unfold isT
  go_enter Try.func54, Try.ntmps54
  by_cases h0 : 0 ≤ s
  · by_cases h1 : s < ((trie ps).length : Int)
    · rw [decide_eq_true ⟨h0, h1⟩]
      go_wp2
      go_ret
      first | exact ⟨rfl, 0, rfl⟩ | exact ⟨rfl, 1, rfl⟩ | exact ⟨rfl, 2, rfl⟩
    · rw [decide_eq_false (fun h => h1 h.2)]
      go_wp2
      go_ret
      first | exact ⟨rfl, 0, rfl⟩ | exact ⟨rfl, 1, rfl⟩ | exact ⟨rfl, 2, rfl⟩
  · rw [decide_eq_false (fun h => h0 h.1)]
    go_wp2
    go_ret
    first | exact ⟨rfl, 0, rfl⟩ | exact ⟨rfl, 1, rfl⟩ | exact ⟨rfl, 2, rfl⟩
theorem states_calls (w : World) (pa : Nat) (ps : List Wd) (h : MachAt w pa ps) : Calls Try.prog 24 #[.pointer (some ⟨pa, 0, none⟩)] w fun e w' => e = .returned (.int .i64 ((trie ps).length : Int)) ∧ ∃ q, w' = w.drewN q := by
  obtain ⟨gn, cn, gx, c0, c1, c2, c3, _⟩ := h.reads
  go_enter Try.func24, Try.ntmps24
  go_wp2
  go_ret
  first | exact ⟨rfl, 0, rfl⟩ | exact ⟨rfl, 1, rfl⟩
theorem patterns_calls (w : World) (pa : Nat) (ps : List Wd) (h : MachAt w pa ps) : Calls Try.prog 36 #[.pointer (some ⟨pa, 0, none⟩)] w fun e w' => e = .returned (.int .i64 (ps.length : Int)) ∧ ∃ q, w' = w.drewN q := by
  obtain ⟨gn, cn, gx, c0, c1, c2, c3, _⟩ := h.reads
  go_enter Try.func36, Try.ntmps36
  go_wp2
  go_ret
  first | exact ⟨rfl, 0, rfl⟩ | exact ⟨rfl, 1, rfl⟩
theorem longest_calls (w : World) (pa : Nat) (ps : List Wd) (h : MachAt w pa ps) : Calls Try.prog 29 #[.pointer (some ⟨pa, 0, none⟩)] w fun e w' => e = .returned (.int .i64 (longW ps)) ∧ ∃ q, w' = w.drewN q := by
  obtain ⟨gn, cn, gx, c0, c1, c2, c3, _⟩ := h.reads
  go_enter Try.func29, Try.ntmps29
  go_wp2
  go_ret
  first | exact ⟨rfl, 0, rfl⟩ | exact ⟨rfl, 1, rfl⟩
theorem isT_true {T : List Wd} {s : Int} (h : isT T s = true) : ∃ k : Nat, s = (k : Int) ∧ k < T.length := by
  unfold isT at h
  have h := of_decide_eq_true h
  exact ⟨s.toNat, by omega, by omega⟩
/-- What Next, Fail, Depth tell. -/
def nextT (ps : List Wd) (s b : Int) : Int := if isT (trie ps) s = true then ((nxT (trie ps) s.toNat b : Nat) : Int) else 0
def failT (ps : List Wd) (s : Int) : Int := if isT (trie ps) s = true then ((flT (trie ps) s.toNat : Nat) : Int) else 0
def depthT (ps : List Wd) (s : Int) : Int := if isT (trie ps) s = true then ((depT (trie ps) s.toNat : Nat) : Int) else 0
def wordT (ps : List Wd) (s : Int) : Wd := if isT (trie ps) s = true then (trie ps).getD s.toNat [] else []
def outT (ps : List Wd) (s : Int) : List Int := if isT (trie ps) s = true then outsW ps ((trie ps).getD s.toNat []) else []
theorem next_calls (w : World) (pa : Nat) (ps : List Wd) (s b : Int) (h : MachAt w pa ps) (hb : 0 ≤ b ∧ b ≤ 255) : Calls Try.prog 21 #[.pointer (some ⟨pa, 0, none⟩), .int .i64 s, .int .u8 b] w fun e w' => e = .returned (.int .i64 (nextT ps s b)) ∧ ∃ q, w' = w.drewN q := by
  have hi := is_calls w pa ps s h
  obtain ⟨gn, cn, gx, c0, c1, c2, c3, _, c5⟩ := h.reads
  have hlen := (trie_bound h.zero).2
  have hlt := fun k => nx_lt (T := trie ps) h.auto.choose_spec.choose_spec.choose_spec.choose_spec.choose_spec.2.2.2.2.2 k b
  unfold nextT
  cases his : isT (trie ps) s with
  | false =>
    rw [his] at hi
    rw [if_neg (by decide)]
    go_enter Try.func21, Try.ntmps21
    go_wp2_with fail
    refine hi.mono ?_
    rintro e w' ⟨rfl, q, rfl⟩
    go_wp2
    go_ret
    exact ⟨rfl, q, rfl⟩
  | true =>
    rw [his] at hi
    rw [if_pos rfl]
    obtain ⟨k, rfl, hk⟩ := isT_true his
    obtain ⟨bn, rfl⟩ : ∃ bn : Nat, b = (bn : Int) := ⟨b.toNat, by omega⟩
    have hc := c5 k bn hk (by omega)
    rw [Int.toNat_natCast]
    obtain ⟨z, hz⟩ : ∃ z, nxT (trie ps) k (bn : Int) = z := ⟨_, rfl⟩
    have hzl := hlt k
    rw [hz] at hc hzl ⊢
    have hkz : (k : Int) < ((trie ps).length : Int) := by omega
    have hbz : (bn : Int) < 256 := by omega
    have hw : IntKind.i64.wrap (z : Int) = (z : Int) := by rw [IntKind.wrap_i64]; omega
    have HI := Lib.hid hi
    clear hi hlt c5 h his hz
    go_enter Try.func21, Try.ntmps21
    go_wp2_with fail
    refine HI.out.mono ?_
    rintro e w' ⟨rfl, q, rfl⟩
    go_wp2
    go_ret
    exact ⟨rfl, _, rfl⟩
theorem fail_calls (w : World) (pa : Nat) (ps : List Wd) (s : Int) (h : MachAt w pa ps) : Calls Try.prog 26 #[.pointer (some ⟨pa, 0, none⟩), .int .i64 s] w fun e w' => e = .returned (.int .i64 (failT ps s)) ∧ ∃ q, w' = w.drewN q := by
  have hi := is_calls w pa ps s h
  obtain ⟨gn, cn, gx, c0, c1, c2, c3, c4, c5⟩ := h.reads
  have hlen := (trie_bound h.zero).2
  unfold failT
  cases his : isT (trie ps) s with
  | false =>
    rw [his] at hi
    rw [if_neg (by decide)]
    go_enter Try.func26, Try.ntmps26
    go_wp2_with fail
    refine hi.mono ?_
    rintro e w' ⟨rfl, q, rfl⟩
    go_wp2
    go_ret
    exact ⟨rfl, q, rfl⟩
  | true =>
    rw [his] at hi
    rw [if_pos rfl]
    obtain ⟨k, rfl, hk⟩ := isT_true his
    obtain ⟨d0, d1, d2, d3, d4⟩ := c4 k hk
    rw [Int.toNat_natCast]
    have hkz : (k : Int) < ((trie ps).length : Int) := by omega
    have HI := Lib.hid hi
    clear hi c4 c5 h his d4
    go_enter Try.func26, Try.ntmps26
    go_wp2_with fail
    refine HI.out.mono ?_
    rintro e w' ⟨rfl, q, rfl⟩
    go_wp2
    go_ret
    exact ⟨rfl, _, rfl⟩
theorem depth_calls (w : World) (pa : Nat) (ps : List Wd) (s : Int) (h : MachAt w pa ps) : Calls Try.prog 27 #[.pointer (some ⟨pa, 0, none⟩), .int .i64 s] w fun e w' => e = .returned (.int .i64 (depthT ps s)) ∧ ∃ q, w' = w.drewN q := by
  have hi := is_calls w pa ps s h
  obtain ⟨gn, cn, gx, c0, c1, c2, c3, c4, c5⟩ := h.reads
  have hlen := (trie_bound h.zero).2
  unfold depthT
  cases his : isT (trie ps) s with
  | false =>
    rw [his] at hi
    rw [if_neg (by decide)]
    go_enter Try.func27, Try.ntmps27
    go_wp2_with fail
    refine hi.mono ?_
    rintro e w' ⟨rfl, q, rfl⟩
    go_wp2
    go_ret
    exact ⟨rfl, q, rfl⟩
  | true =>
    rw [his] at hi
    rw [if_pos rfl]
    obtain ⟨k, rfl, hk⟩ := isT_true his
    obtain ⟨d0, d1, d2, d3, d4⟩ := c4 k hk
    rw [Int.toNat_natCast]
    have hkz : (k : Int) < ((trie ps).length : Int) := by omega
    have HI := Lib.hid hi
    clear hi c4 c5 h his d4
    go_enter Try.func27, Try.ntmps27
    go_wp2_with fail
    refine HI.out.mono ?_
    rintro e w' ⟨rfl, q, rfl⟩
    go_wp2
    go_ret
    exact ⟨rfl, _, rfl⟩
/-- A row of numbers of the call's own. -/
def OwnI (w : World) (base : Nat) (v : Value) (xs : List Int) : Prop := w.ownsRow base 3 1 v xs.length (nums .i64 xs)
theorem clone_calls {w : World} {base : Nat} {v : Value} {xs : List Int} (h : w.ownsRow base 3 1 v xs.length (nums .i64 xs)) (hl : xs.length ≤ 128) : Calls Try.prog 55 #[v] w fun e w' => ∃ v', e = .returned v' ∧ OwnI w' w.heap.size v' xs ∧ Below w.heap.size w w' := by
  rcases h.2 with ⟨rfl, h0⟩ | ⟨g, cap, cur, rfl, hb, hg, hn, hcm, hcs, htk⟩
  · have hx := List.eq_nil_of_length_eq_zero h0
    subst hx
    refine (Try.slices_Clone_int_nil 0 0 w).mono ?_
    rintro e w' ⟨rfl, rfl⟩
    exact ⟨_, rfl, ⟨rfl, .inl ⟨rfl, rfl⟩⟩, Below.refl _ _⟩
  · refine (Try.slices_Clone_int g 0 xs.length cap xs w (Nat.le_refl _) (by omega) (fun j hj => ?_)).mono ?_
    · rw [Nat.zero_add]
      rw [h.cellAt j (by omega)]
      unfold nums
      rw [List.getElem?_map, List.getElem?_eq_getElem hj, List.getD_eq_getElem?_getD, List.getElem?_eq_getElem hj]
      rfl
    · rintro e w' ⟨v', rfl, ho, _, hB⟩
      rw [List.take_length] at ho
      exact ⟨v', rfl, ho, hB⟩
theorem out_calls (w : World) (pa : Nat) (ps : List Wd) (s : Int) (h : MachAt w pa ps) : Calls Try.prog 22 #[.pointer (some ⟨pa, 0, none⟩), .int .i64 s] w fun e w' => ∃ v, e = .returned v ∧ OwnI w' w.heap.size v (outT ps s) ∧ Below w.heap.size w w' := by
  have hi := is_calls w pa ps s h
  obtain ⟨gn, cn, gx, c0, c1, c2, c3, c4, c5⟩ := h.reads
  have hlen := (trie_bound h.zero).2
  have hpl := (chkW_zero h.zero).2.1
  unfold outT
  cases his : isT (trie ps) s with
  | false =>
    rw [his] at hi
    rw [if_neg (by decide)]
    go_enter Try.func22, Try.ntmps22
    go_wp2_with fail
    refine hi.mono ?_
    rintro e w' ⟨rfl, q, rfl⟩
    go_wp2
    go_ret
    exact ⟨_, rfl, ⟨rfl, .inl ⟨rfl, rfl⟩⟩, below_drewN' (Below.refl _ _) q⟩
  | true =>
    rw [his] at hi
    rw [if_pos rfl]
    obtain ⟨k, rfl, hk⟩ := isT_true his
    obtain ⟨d0, d1, d2, d3, v, base, d4, hown⟩ := c4 k hk
    rw [Int.toNat_natCast]
    have hkz : (k : Int) < ((trie ps).length : Int) := by omega
    have HI := Lib.hid hi
    have hcl := fun q => clone_calls (w := w.drewN q) (base := base) (v := v) (xs := outsW ps ((trie ps).getD k [])) hown (Nat.le_trans (outs_len hpl _).1 (by omega))
    have HCL := Lib.hid hcl
    clear hi c4 c5 h his hcl hown
    go_enter Try.func22, Try.ntmps22
    go_wp2_with fail
    refine HI.out.mono ?_
    rintro e w' ⟨rfl, q, rfl⟩
    go_wp2_with fail

    refine (HCL.out _).mono ?_
    rintro e w' ⟨v', rfl, hO, hB⟩
    have HO := Lib.hid hO
    have HB := Lib.hid hB
    clear hO hB
    go_wp2
    go_ret
    exact ⟨_, rfl, HO.out, (below_drewN' (Below.refl w.heap.size w) q).trans (show Below w.heap.size (w.drewN q) w' from HB.out)⟩
/-- A row of bytes of the call's own. -/
def OwnB (w : World) (base : Nat) (v : Value) (xs : Wd) : Prop := w.ownsRow base 5 1 v xs.length (nums .u8 xs)
theorem info5 : (Try.prog.info? 5).map (fun i => (i.zero, i.size, i.bytes)) = some (some (.int .u8 0), 1, 1) := by kernel_rfl
theorem word_mk (n : Nat) (hn : n ≤ 4096) : ∃ C : Array Value, C.size = n ∧ ∀ W : World, (Instr.makeSlice 32 (.int .i64 (n : Int)) (.int .i64 (n : Int))).run Try.prog W = .ok (.slice (some ⟨W.heap.size, 0, none⟩) n n) (W.alloc (.cells C 5)) := by
  obtain ⟨i0, hi, hz0, hz1, hz2⟩ := info_parts info5
  refine ⟨madeCells #[.int .u8 0] n, size_madeCells _ _, fun W => ?_⟩
  have h := run_makeSlice (P := Try.prog) W 32 5 i0 _ Try.underlying32 hi hz0 .i64 .i64 (n : Int) (n : Int) (by omega) (by omega) (by rw [hz1]; omega) (by rw [hz2]; omega) (by omega)
  rw [hz1, Int.toNat_natCast, Nat.mul_one] at h
  exact h
/-- The bytes of x from m on are written. -/
def WordI (w wr : World) (H : Nat) (x : Wd) (m : Nat) : Prop :=
  ∃ cur : Array Value, wr.heap[H]? = some (.cells cur 5 (0, 0)) ∧ cur.size = x.length ∧ (∀ j, m ≤ j → j < x.length → cur[j]? = some (.int .u8 (x.getD j 0))) ∧ Below w.heap.size w wr
theorem WordI.cell {w wr : World} {H : Nat} {x : Wd} {m : Nat} (h : WordI w wr H x m) {j : Nat} (hj : j < x.length) : ∃ u, wr.cell? ⟨H, j, none⟩ = some u := by
  obtain ⟨cur, h1, h2, h3, h4⟩ := h
  rw [cell_of_row _ _ _ _ _ _ h1]
  exact ⟨_, Array.getElem?_eq_getElem (by omega)⟩
theorem WordI.frozen {w wr : World} {H : Nat} {x : Wd} {m : Nat} (h : WordI w wr H x m) (j : Nat) : wr.frozen? ⟨H, j, none⟩ = false := by
  obtain ⟨cur, h1, h2, h3, h4⟩ := h
  exact frozen_of_row _ _ _ _ _ h1
theorem WordI.set {w wr : World} {H : Nat} {x : Wd} {m : Nat} (h : WordI w wr H x (m + 1)) (hm : m < x.length) (hH : w.heap.size ≤ H) {b : Int} (hb : b = x.getD m 0) : WordI w (wr.setCell ⟨H, m, none⟩ (.int .u8 b)) H x m := by
  obtain ⟨cur, h1, h2, h3, h4⟩ := h
  refine ⟨_, heap_setCell_same wr H m cur 5 _ h1, by simpa using h2, fun j hj hjx => ?_, h4.setCell (p := ⟨H, m, none⟩) hH _⟩
  rw [Array.getElem?_setIfInBounds]
  by_cases e : m = j
  · subst e; rw [if_pos rfl, if_pos (by omega), hb]
  · rw [if_neg e]; exact h3 j (by omega) hjx
theorem WordI.own {w wr : World} {H : Nat} {x : Wd} (h : WordI w wr H x 0) (hH : w.heap.size ≤ H) (hx : x.length ≤ 4096) : OwnB wr w.heap.size (.slice (some ⟨H, 0, none⟩) x.length x.length) x := by
  obtain ⟨cur, h1, h2, h3, h4⟩ := h
  refine ⟨by unfold nums; simp, .inr ⟨H, x.length, cur, rfl, hH, h1, Nat.le_refl _, by unfold maxLen; omega, by omega, ?_⟩⟩
  apply List.ext_getElem?
  intro j
  rw [Nat.mul_one]
  unfold nums
  rcases Nat.lt_or_ge j x.length with hj | hj
  · rw [List.getElem?_take_of_lt hj, Array.getElem?_toList, h3 j (Nat.zero_le _) hj, List.getElem?_map, List.getElem?_eq_getElem hj, List.getD_eq_getElem?_getD, List.getElem?_eq_getElem hj]
    rfl
  · rw [List.getElem?_eq_none (by rw [List.length_take]; omega), List.getElem?_eq_none (by rw [List.length_map]; exact hj)]
theorem st_step {T : List Wd} (hT : TrieI T) {x : Wd} {st m : Nat} (hs : st < T.length) (hw : T.getD st [] = x.take (m + 1)) (hm : m < x.length) : byT T st = x.getD m 0 ∧ parT T st < T.length ∧ T.getD (parT T st) [] = x.take m := by
  have e : x.take (m + 1) = x.take m ++ [x.getD m 0] := by
    rw [List.take_succ_eq_append_getElem hm, List.getD_eq_getElem?_getD, List.getElem?_eq_getElem hm, Option.getD_some]
  refine ⟨?_, par_lt hT hs, ?_⟩
  · unfold byT
    rw [hw, e]; simp
  · rw [par_word hT hs, hw, e, List.dropLast_concat]
set_option maxHeartbeats 2000000 in
theorem word_calls (w : World) (pa : Nat) (ps : List Wd) (s : Int) (h : MachAt w pa ps) : Calls Try.prog 25 #[.pointer (some ⟨pa, 0, none⟩), .int .i64 s] w fun e w' => ∃ v, e = .returned v ∧ OwnB w' w.heap.size v (wordT ps s) ∧ Below w.heap.size w w' := by
  have hi := is_calls w pa ps s h
  obtain ⟨gn, cn, gx, c0, c1, c2, c3, c4, c5⟩ := h.reads
  unfold wordT
  cases his : isT (trie ps) s with
  | false =>
    rw [his] at hi
    rw [if_neg (by decide)]
    go_enter Try.func25, Try.ntmps25
    go_wp2_with fail
    refine hi.mono ?_
    rintro e w' ⟨rfl, q, rfl⟩
    go_wp2
    go_ret
    exact ⟨_, rfl, ⟨rfl, .inl ⟨rfl, rfl⟩⟩, below_drewN' (Below.refl _ _) q⟩
  | true =>
    rw [his] at hi
    rw [if_pos rfl]
    obtain ⟨k, rfl, hk⟩ := isT_true his
    rw [Int.toNat_natCast]
    have hT : TrieI (trie ps) := h.auto.choose_spec.choose_spec.choose_spec.choose_spec.choose_spec.2.2.2.2.2
    obtain ⟨x, hx⟩ : ∃ x, (trie ps).getD k [] = x := ⟨_, rfl⟩
    have hxl := (word_bound h.zero h.bytes (get_mem hk)).1
    have hd : depT (trie ps) k = x.length := by unfold depT; rw [hx]
    have d2 := (c4 k hk).2.2.1
    rw [hx] at hxl ⊢
    rw [hd] at d2
    obtain ⟨C, hC, hmk⟩ := word_mk x.length (by omega)
    have hkz : (k : Int) < ((trie ps).length : Int) := by omega
    have hw1 : IntKind.i64.wrap ((x.length : Int) - 1) = (x.length : Int) - 1 := by rw [IntKind.wrap_i64]; omega
    have HI := Lib.hid hi
    have HC := Lib.hid hC
    have HT := Lib.hid hT
    have HX := Lib.hid hx
    have HK := Lib.hid hk
    have H0 := Lib.hid c0
    have H4 := Lib.hid c4
    clear hi hC hT hx hk c4 c5 c1 c2 c3 h his hd
    go_enter Try.func25, Try.ntmps25
    go_wp2_with fail
    refine HI.out.mono ?_
    rintro e w' ⟨rfl, q, rfl⟩
    go_wp2
    have hI : Hid (WordI w ((w.drewN q).alloc (.cells C 5)) w.heap.size x x.length) := ⟨C, heap_alloc_new (w.drewN q) _, HC.out, fun j h1 h2 => by omega, (below_drewN' (Below.refl w.heap.size w) q).alloc (Nat.le_refl _) _⟩
    clear hmk
    generalize hw2 : (w.drewN q).alloc (.cells C 5) = w2 at hI ⊢
    have hHs : (w.drewN q).heap.size = w.heap.size := rfl
    try rw [hHs]
    obtain ⟨H, hH⟩ : ∃ H, w.heap.size = H := ⟨_, rfl⟩
    rw [hH] at hI ⊢
    have HH : Hid (w.heap.size ≤ H) := Nat.le_of_eq hH
    clear hw2 hHs d2 c0
    go_loopg [1, 6] x.length (fun g1 vs vi wr => ∃ m st : Nat, vs = .int .i64 (st : Int) ∧ vi = .int .i64 ((m : Int) - 1) ∧ m ≤ x.length ∧ m ≤ g1 ∧ st < (trie ps).length ∧ Hid ((trie ps).getD st [] = x.take m) ∧ Hid (WordI w wr H x m))
    case atStart => exact ⟨x.length, k, rfl, rfl, Nat.le_refl _, Nat.le_refl _, HK.out, by rw [Hid, HX.out, List.take_length], hI⟩
    case round =>
      clear hI
      obtain ⟨m, st, rfl, rfl, hm, hg1, hst, HW, HI2⟩ := hrel
      match m, hm, hg1, HW, HI2 with
      | 0, hm, hg1, HW, HI2 =>
        have hneg : ¬ ((0 : Int) ≤ ((0 : Nat) : Int) - 1) := by omega
        have hoB := HI2.out.own HH.out (by omega)
        obtain ⟨cur, _, _, _, hB⟩ := HI2.out
        have HO := Lib.hid hoB
        have HB := Lib.hid hB
        clear hoB hB
        go_wp2
        go_ret
        exact ⟨_, rfl, hH ▸ HO.out, hH ▸ HB.out⟩
      | m + 1, hm, hg1, HW, HI2 =>
        have e1 : ((m + 1 : Nat) : Int) - 1 = (m : Int) := by omega
        have hmx : m < x.length := by omega
        obtain ⟨s1, s2, s3⟩ := st_step HT.out hst HW.out hmx
        obtain ⟨q0, q1, _⟩ := H4.out st hst
        obtain ⟨cur, _, _, _, hB⟩ := HI2.out
        have k0 : wr.cell? ⟨pa, 0, none⟩ = some (.slice (some ⟨gn, 0, none⟩) (trie ps).length cn) := (hB.cell (World.block_lt_of_cell? _ _ H0.out)).trans H0.out
        have r0 : wr.cell? ⟨gn, st * 5, none⟩ = some (.int .i64 ((parT (trie ps) st : Nat) : Int)) := (hB.cell (World.block_lt_of_cell? _ _ q0)).trans q0
        have r1 : wr.cell? ⟨gn, st * 5 + 1, none⟩ = some (.int .u8 (byT (trie ps) st)) := (hB.cell (World.block_lt_of_cell? _ _ q1)).trans q1
        obtain ⟨u, hu⟩ := HI2.out.cell hmx
        have hfz := HI2.out.frozen m
        have hnext : Hid (WordI w (wr.setCell ⟨H, m, none⟩ (.int .u8 (byT (trie ps) st))) H x m) := HI2.out.set hmx HH.out s1
        have hne : gn ≠ H := by have := World.block_lt_of_cell? _ _ q0; have : gn < w.heap.size := this; have := HH.out; omega
        have hnp : pa ≠ H := by have := World.block_lt_of_cell? _ _ H0.out; have : pa < w.heap.size := this; have := HH.out; omega
        have k0' : (wr.setCell ⟨H, m, none⟩ (.int .u8 (byT (trie ps) st))).cell? ⟨pa, 0, none⟩ = some (.slice (some ⟨gn, 0, none⟩) (trie ps).length cn) := by rw [World.cell?_of_block (Below.heap_setCell wr ⟨H, m, none⟩ _ pa hnp)]; exact k0
        have r0' : (wr.setCell ⟨H, m, none⟩ (.int .u8 (byT (trie ps) st))).cell? ⟨gn, st * 5, none⟩ = some (.int .i64 ((parT (trie ps) st : Nat) : Int)) := by rw [World.cell?_of_block (Below.heap_setCell wr ⟨H, m, none⟩ _ gn hne)]; exact r0
        obtain ⟨py, hpy⟩ : ∃ py, parT (trie ps) st = py := ⟨_, rfl⟩
        obtain ⟨by_, hby_⟩ : ∃ by_, byT (trie ps) st = by_ := ⟨_, rfl⟩
        rw [hpy] at s2 s3 r0 r0'
        rw [hby_] at r1 hnext k0' r0'
        have hstz : (st : Int) < ((trie ps).length : Int) := by omega
        have hmz : (m : Int) < (x.length : Int) := by omega
        have hw3 : IntKind.i64.wrap ((m : Int) - 1) = (m : Int) - 1 := by rw [IntKind.wrap_i64]; omega
        have S3 := Lib.hid s3
        rw [e1]
        clear hB q0 q1 s1 s3 hpy hby_
        go_wp2
        go_roundg m
        case measure => omega
        case rel => exact ⟨m, py, rfl, rfl, by omega, Nat.le_refl _, s2, S3, hnext⟩
end Go.Proofs.Ytdciniefkodeaaa.PAll
