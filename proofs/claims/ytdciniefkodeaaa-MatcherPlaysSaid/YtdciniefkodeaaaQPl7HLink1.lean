/- (*patterns.Auto).link, walked: up to the order of the states. -/
import Derived.Test.YtdciniefkodeaaaQPl7HAuto
import Derived.Test.YtdciniefkodeaaaQPl7HCmp
set_option linter.unusedVariables false
set_option linter.unusedSimpArgs false
namespace Go.Proofs.Ytdciniefkodeaaa.PAll
open Go.Sort Go.RowKit Go.Proofs.YtdciniefkodeaaaW.PrintWords Go.Proofs.YtdciniefkodeaaaW.PrintLast Go.Proofs.YtdciniefkodeaaaW.PrintMore
theorem zeros_get (z : Value) (k m : Nat) (hk : 0 < k) : ∀ j, j < m → (madeCells (Array.replicate k z) m)[j]? = some z := fun j hj => by
  unfold madeCells
  have h : j % k < k := Nat.mod_lt _ hk
  simp [hj, h, getElem!_pos]
theorem next_mk (n : Nat) (hn : n ≤ 4096) : ∃ C : Array Value, C.size = n * 256 ∧ (∀ j, j < n * 256 → C[j]? = some (.int .i32 0)) ∧ ∀ W : World, (Instr.makeSlice 78 (.int .i64 (n : Int)) (.int .i64 (n : Int))).run Try.prog W = .ok (.slice (some ⟨W.heap.size, 0, none⟩) n n) (W.alloc (.cells C 86)) := by
  obtain ⟨i0, hi, hz0, hz1, hz2⟩ := info_parts (show (Try.prog.info? 86).map (fun i => (i.zero, i.size, i.bytes)) = some (some (.agg (Array.replicate 256 (.int .i32 0))), 256, 1024) by kernel_rfl)
  refine ⟨madeCells (Array.replicate 256 (.int .i32 0)) (n * 256), size_madeCells _ _, fun j hj => zeros_get _ 256 _ (by decide) j hj, fun W => ?_⟩
  have h := run_makeSlice (P := Try.prog) W 78 86 i0 _ Try.underlying78 hi hz0 .i64 .i64 (n : Int) (n : Int) (by omega) (by omega) (by rw [hz1]; omega) (by rw [hz2]; omega) (by omega)
  rw [hz1, Int.toNat_natCast] at h
  exact h
theorem ord_mk (n : Nat) (hn : n ≤ 4096) : ∃ C : Array Value, C.size = n ∧ ∀ W : World, (Instr.makeSlice 34 (.int .i64 (n : Int)) (.int .i64 (n : Int))).run Try.prog W = .ok (.slice (some ⟨W.heap.size, 0, none⟩) n n) (W.alloc (.cells C 3)) := by
  obtain ⟨i0, hi, hz0, hz1, hz2⟩ := info_parts info3
  refine ⟨madeCells #[.int .i64 0] n, size_madeCells _ _, fun W => ?_⟩
  have h := run_makeSlice (P := Try.prog) W 34 3 i0 _ Try.underlying34 hi hz0 .i64 .i64 (n : Int) (n : Int) (by omega) (by omega) (by rw [hz1]; omega) (by rw [hz2]; omega) (by omega)
  rw [hz1, Int.toNat_natCast, Nat.mul_one] at h
  exact h
/-- The first k places of the order hold their own numbers. -/
def IdI (wc wr : World) (go n k : Nat) : Prop := ∃ cur : Array Value, wr.heap[go]? = some (.cells cur 3 (0, 0)) ∧ cur.size = n ∧ (∀ t, t < k → cur[t]? = some (.int .i64 (t : Int))) ∧ wc.grownBy wr (some go)
theorem IdI.cell {wc wr : World} {go n k : Nat} (h : IdI wc wr go n k) {j : Nat} (hj : j < n) : ∃ u, wr.cell? ⟨go, j, none⟩ = some u := by
  obtain ⟨cur, h1, h2, _⟩ := h
  rw [cell_of_row _ _ _ _ _ _ h1]
  exact ⟨_, Array.getElem?_eq_getElem (by omega)⟩
theorem IdI.frozen {wc wr : World} {go n k : Nat} (h : IdI wc wr go n k) (j : Nat) : wr.frozen? ⟨go, j, none⟩ = false := by
  obtain ⟨cur, h1, _⟩ := h
  exact frozen_of_row _ _ _ _ _ h1
theorem IdI.set {wc wr : World} {go n k : Nat} (h : IdI wc wr go n k) (hk : k < n) : IdI wc (wr.setCell ⟨go, k, none⟩ (.int .i64 (k : Int))) go n (k + 1) := by
  obtain ⟨cur, h1, h2, h3, h4⟩ := h
  refine ⟨cur.setIfInBounds k (.int .i64 (k : Int)), heap_setCell_same wr go k cur 3 _ h1, by simpa using h2, fun t ht => ?_, h4.trans ⟨rfl, rfl, rfl, by simp [World.setCell], fun j hj hne => Below.heap_setCell wr ⟨go, k, none⟩ _ j (fun e => hne (by rw [e]))⟩⟩
  rw [Array.getElem?_setIfInBounds]
  by_cases e : k = t
  · subst e; rw [if_pos rfl, if_pos (by omega)]
  · rw [if_neg e]; exact h3 t (by omega)
theorem sortWorld_cell {α : Type} [Inhabited α] (enc : α → Value) (w : World) (go m : Nat) (dk : Array α) (os : Array Obj) (a : Addr) (h1 : a.block ≠ go) (h2 : a.block < w.heap.size) : (sortWorld enc w go 0 m dk os).cell? a = w.cell? a := by
  unfold sortWorld
  rw [cell?_grow _ _ _ (by simpa [putRow, mapBlock] using h2), cell?_putRow_other _ _ _ _ _ _ (.inl h1), cell?_ahead]
def depF (T : List Wd) (N : Nat) (x : Fin (N + 1)) : Int := (depT T x.val : Int)
theorem link_cmp {wr : World} {bx pa gn go n cn N size : Nat} {T : List Wd} (hn : n = N + 1) (h1 : wr.cell? ⟨bx, 0, none⟩ = some (.pointer (some ⟨pa, 0, none⟩))) (h2 : wr.cell? ⟨pa, 0, none⟩ = some (.slice (some ⟨gn, 0, none⟩) n cn))
    (h3 : ∀ x, x < n → wr.cell? ⟨gn, x * 5 + 2, none⟩ = some (.int .i64 (depT T x : Int))) (h4 : ∀ x, depT T x ≤ 4096) (n1 : bx ≠ go) (n2 : pa ≠ go) (n3 : gn ≠ go) : CmpD N (depF T N) (.pointer (some ⟨bx, 0, none⟩)) go 0 size wr := by
  intro m os dk hdk x y
  have hc : ∀ (a : Addr) (v : Value), wr.cell? a = some v → a.block ≠ go → (sortWorld (encF N) wr go 0 m dk os).cell? a = some v := fun a v h hne => by
    rw [sortWorld_cell _ _ _ _ _ _ _ hne (World.block_lt_of_cell? _ _ h)]; exact h
  have hx := x.isLt
  have hy := y.isLt
  have h5 := h4 x.val
  have h6 := h4 y.val
  exact cmp_calls _ bx pa gn n cn x.val y.val _ _ (hc _ _ h1 n1) (hc _ _ h2 n2) (by omega) (by omega) (hc _ _ (h3 x.val (by omega)) n3) (hc _ _ (h3 y.val (by omega)) n3) ⟨by show (0 : Int) ≤ ((depT T x.val : Nat) : Int); omega, by show ((depT T x.val : Nat) : Int) ≤ 4096; omega⟩ ⟨by show (0 : Int) ≤ ((depT T y.val : Nat) : Int); omega, by show ((depT T y.val : Nat) : Int) ≤ 4096; omega⟩
theorem dep_le {T : List Wd} (h : ∀ x ∈ T, x.length ≤ 32) (j : Nat) : depT T j ≤ 4096 := by
  unfold depT
  rcases Nat.lt_or_ge j T.length with hj | hj
  · have := h _ (get_mem hj); omega
  · rw [List.getD_eq_getElem?_getD, List.getElem?_eq_none hj]; simp
theorem id_array (N : Nat) : ∃ d : Array (Fin (N + 1)), d.size = N + 1 ∧ ∀ j, j < N + 1 → (d[j]!).val = j :=
  ⟨Array.ofFn fun i => i, by simp, fun j hj => by rw [getElem!_pos _ j (by simpa using hj), Array.getElem_ofFn]⟩
theorem id_holds {wc wr : World} {go n N : Nat} (h : IdI wc wr go n n) (hn : n = N + 1) {d : Array (Fin (N + 1))} (h1 : d.size = N + 1) (h2 : ∀ j, j < N + 1 → (d[j]!).val = j) : Holds (encF N) wr go 0 d := by
  obtain ⟨cur, a1, a2, a3, _⟩ := h
  intro j hj
  refine ⟨?_, frozen_of_row _ _ _ _ _ a1⟩
  rw [Nat.zero_add, cell_of_row _ _ _ _ _ _ a1, a3 j (by omega)]
  show _ = some (Value.int .i64 (((d[j]!).val : Nat) : Int))
  rw [h2 j (by omega)]
/-- What lies where, the row of what follows having been made. -/
theorem link_first {w0 w wq : World} {pa g gn n cn : Nat} {cnt lon : Int} {nds : List Nd} {T : List Wd} {x : Value} (h3 : w.heap[pa]? = some (.cells #[.slice (some ⟨gn, 0, none⟩) n cn, .slice none 0 0, .int .i64 cnt, .int .i64 lon] 80 (0, 0))) (h4 : NodesI w w0.heap.size (.slice (some ⟨gn, 0, none⟩) n cn) nds) (h6 : EdgeMap w g T) (hB : Below w0.heap.size w0 w) (h1 : w0.heap.size ≤ pa)
    (hw : wq = w.alloc (.cells #[.pointer (some ⟨pa, 0, none⟩)] 24)) (C : Array Value) :
    (((wq.alloc (.cells C 86)).setCell ⟨pa, 1, none⟩ x).heap[w.heap.size]? = some (.cells #[.pointer (some ⟨pa, 0, none⟩)] 24 (0, 0)) ∧ ((wq.alloc (.cells C 86)).setCell ⟨pa, 1, none⟩ x).heap[pa]? = some (.cells #[.slice (some ⟨gn, 0, none⟩) n cn, x, .int .i64 cnt, .int .i64 lon] 80 (0, 0)) ∧
      ((wq.alloc (.cells C 86)).setCell ⟨pa, 1, none⟩ x).heap[wq.heap.size]? = some (.cells C 86 (0, 0)) ∧ NodesI ((wq.alloc (.cells C 86)).setCell ⟨pa, 1, none⟩ x) w0.heap.size (.slice (some ⟨gn, 0, none⟩) n cn) nds ∧ EdgeMap ((wq.alloc (.cells C 86)).setCell ⟨pa, 1, none⟩ x) g T ∧ Below w0.heap.size w0 ((wq.alloc (.cells C 86)).setCell ⟨pa, 1, none⟩ x)) ∧
      ((wq.alloc (.cells C 86)).setCell ⟨pa, 1, none⟩ x).heap.size = w.heap.size + 2 := by
  subst hw
  have hlp : pa < w.heap.size := (Array.getElem?_eq_some_iff.1 h3).1
  have hb1 : Below w.heap.size w (w.alloc (.cells #[.pointer (some ⟨pa, 0, none⟩)] 24)) := (Below.refl _ _).alloc (Nat.le_refl _) _
  have hb2 : Below w.heap.size w ((w.alloc (.cells #[.pointer (some ⟨pa, 0, none⟩)] 24)).alloc (.cells C 86)) := hb1.alloc (by simp) _
  have hpa2 : ((w.alloc (.cells #[.pointer (some ⟨pa, 0, none⟩)] 24)).alloc (.cells C 86)).heap[pa]? = some (.cells #[.slice (some ⟨gn, 0, none⟩) n cn, .slice none 0 0, .int .i64 cnt, .int .i64 lon] 80 (0, 0)) := (hb2.block pa hlp).trans h3
  have ho : ∀ k, k ≠ pa → ((((w.alloc (.cells #[.pointer (some ⟨pa, 0, none⟩)] 24)).alloc (.cells C 86))).setCell ⟨pa, 1, none⟩ x).heap[k]? = ((w.alloc (.cells #[.pointer (some ⟨pa, 0, none⟩)] 24)).alloc (.cells C 86)).heap[k]? := fun k hk => Below.heap_setCell _ ⟨pa, 1, none⟩ x k hk
  refine ⟨⟨?_, ?_, ?_, ?_, ?_, ?_⟩, by simp [World.setCell]⟩
  · rw [ho _ (by omega), Below.heap_alloc _ _ _ (by simp)]
    exact heap_alloc_new w _
  · have := heap_setCell_same _ pa 1 _ _ x hpa2
    simpa using this
  · rw [ho _ (by simp; omega)]
    exact heap_alloc_new _ _
  · exact (h4.keep (KeepN.below hb2)).keep (KeepN.setCell hpa2 (by decide) (by decide) 1 x)
  · obtain ⟨o, hoo, hne⟩ := h6.isMap
    have hgl := (Array.getElem?_eq_some_iff.1 hoo).1
    refine h6.of_heap ?_
    rw [ho _ (fun e => map_ne h6 h3 e.symm)]
    exact hb2.block g hgl
  · exact (hB.trans (hb2.mono hB.size)).setCell (p := ⟨pa, 1, none⟩) h1 x
theorem link_mid {w0 wb wc wr : World} {pa g gx bx go gn n cn : Nat} {cnt lon : Int} {nds : List Nd} {T0 : List Wd} {C : Array Value} {C3 : Array Value}
    (hF : (wb.heap[bx]? = some (.cells #[.pointer (some ⟨pa, 0, none⟩)] 24 (0, 0)) ∧ wb.heap[pa]? = some (.cells #[.slice (some ⟨gn, 0, none⟩) n cn, .slice (some ⟨gx, 0, none⟩) n n, .int .i64 cnt, .int .i64 lon] 80 (0, 0)) ∧
      wb.heap[gx]? = some (.cells C 86 (0, 0)) ∧ NodesI wb w0.heap.size (.slice (some ⟨gn, 0, none⟩) n cn) nds ∧ EdgeMap wb g T0 ∧ Below w0.heap.size w0 wb) ∧ wb.heap.size = bx + 2)
    (hgo : go = wb.heap.size) (hwc : wb.alloc (.cells C3 3) = wc) (hI : IdI wc wr go n n) :
    wr.cell? ⟨bx, 0, none⟩ = some (.pointer (some ⟨pa, 0, none⟩)) ∧ wr.cell? ⟨pa, 0, none⟩ = some (.slice (some ⟨gn, 0, none⟩) n cn) ∧ (∀ (T : List Wd) (O : Wd → List Int), nds.length = n → Matches T O nds → ∀ x, x < n → wr.cell? ⟨gn, x * 5 + 2, none⟩ = some (.int .i64 (depT T x : Int))) ∧ bx ≠ go ∧ pa ≠ go ∧ gn ≠ go := by
  obtain ⟨⟨b1, b2, b3, b4, b5, b6⟩, b7⟩ := hF
  obtain ⟨cur, i1, i2, i3, i4⟩ := hI
  have hold : ∀ k o, wb.heap[k]? = some o → k ≠ go ∧ wr.heap[k]? = some o := fun k o hk => by
    have hl := (Array.getElem?_eq_some_iff.1 hk).1
    refine ⟨by omega, ?_⟩
    rw [i4.block k (by rw [← hwc]; simp; omega) (fun e => by injection e with e; omega), ← hwc, Below.heap_alloc _ _ _ hl]
    exact hk
  obtain ⟨cells, hg⟩ := own_typed b4.row gn rfl
  refine ⟨?_, ?_, fun T O hl hM x hx => ?_, (hold _ _ b1).1, (hold _ _ b2).1, (hold _ _ hg).1⟩
  · rw [cell_of_row _ _ _ _ _ _ (hold _ _ b1).2]; rfl
  · rw [cell_of_row _ _ _ _ _ _ (hold _ _ b2).2]; rfl
  · obtain ⟨y, hy⟩ : ∃ y, nds[x]? = some y := ⟨_, List.getElem?_eq_getElem (by omega)⟩
    subst hl
    have := b4.cell hy (j := 2) (by decide)
    rw [World.cell?_of_block (w := wb) (w' := wr) (a := ⟨gn, x * 5 + 2, none⟩) (by
      show wr.heap[gn]? = wb.heap[gn]?
      rw [(hold _ _ hg).2, hg]), this]
    show some (Value.int .i64 y.dep) = _
    rw [(hM.2 x y hy).2.2.1]
/-- The states, some of them done. -/
def MatchL (T ps : List Wd) (D : Nat → Bool) (nds : List Nd) : Prop :=
  nds.length = T.length ∧ ∀ (j : Nat) (x : Nd), nds[j]? = some x → x.par = parT T j ∧ x.b = byT T j ∧ x.dep = depT T j ∧ x.fail = (if D j = true then ((flT T j : Nat) : Int) else 0) ∧ x.outs = if D j = true then outsW ps (T.getD j []) else ownW ps (T.getD j [])
def doneB (ord : Nat → Nat) (t j : Nat) : Bool := (List.range t).any fun t' => ord t' == j
theorem done_iff {ord : Nat → Nat} {t j : Nat} : doneB ord t j = true ↔ ∃ t', t' < t ∧ ord t' = j := by
  unfold doneB
  rw [List.any_eq_true]
  constructor
  · rintro ⟨t', h1, h2⟩
    exact ⟨t', List.mem_range.1 h1, by simpa using h2⟩
  · rintro ⟨t', h1, h2⟩
    exact ⟨t', List.mem_range.2 h1, by simpa using h2⟩
/-- What follows, as far as it is worked out. -/
def nxD (T : List Wd) (D : Nat → Bool) (s b : Nat) : Int := if D s = true then ((nxT T s (b : Int) : Nat) : Int) else 0
theorem link_start {w0 wb wc wr : World} {pa g gx bx go gn n cn N q : Nat} {cnt lon : Int} {nds : List Nd} {T ps : List Wd} {C : Array Value} {C3 : Array Value} {d c : Array (Fin (N + 1))}
    (hF : (wb.heap[bx]? = some (.cells #[.pointer (some ⟨pa, 0, none⟩)] 24 (0, 0)) ∧ wb.heap[pa]? = some (.cells #[.slice (some ⟨gn, 0, none⟩) n cn, .slice (some ⟨gx, 0, none⟩) n n, .int .i64 cnt, .int .i64 lon] 80 (0, 0)) ∧
      wb.heap[gx]? = some (.cells C 86 (0, 0)) ∧ NodesI wb w0.heap.size (.slice (some ⟨gn, 0, none⟩) n cn) nds ∧ EdgeMap wb g T ∧ Below w0.heap.size w0 wb) ∧ wb.heap.size = bx + 2)
    (hgo : go = wb.heap.size) (hwc : wb.alloc (.cells C3 3) = wc) (hI : IdI wc wr go n n) (hnl : nds.length = n) (h1 : w0.heap.size ≤ pa) (hgx : w0.heap.size ≤ gx) (hC1 : C.size = n * 256) (hC2 : ∀ j, j < n * 256 → C[j]? = some (.int .i32 0))
    (hn : n = N + 1) (hd1 : d.size = N + 1) (hd2 : ∀ j, j < N + 1 → (d[j]!).val = j) (hp : PermIn 0 d.size d c) (hM : Matches T (ownW ps) nds) :
    LinkM w0 ((putRow (encF N) wr go 0 c).drewN q) bx pa g gx go gn cn n cnt lon T (fun t => (c[t]!).val) nds (nxD T (doneB (fun t => (c[t]!).val) 0)) ∧ MatchL T ps (doneB (fun t => (c[t]!).val) 0) nds := by
  obtain ⟨⟨b1, b2, b3, b4, b5, b6⟩, b7⟩ := hF
  have hHo := id_holds hI hn hd1 hd2
  obtain ⟨cur, i1, i2, i3, i4⟩ := hI
  have hcs : c.size = d.size := hp.1
  have hheap : ∀ k, k ≠ go → ((putRow (encF N) wr go 0 c).drewN q).heap[k]? = wr.heap[k]? := fun k hk => by
    show (wr.heap.modify go (onCells (putCells (encF N) 0 c)))[k]? = _
    rw [Array.getElem?_modify, if_neg (Ne.symm hk)]
  have hsz : ((putRow (encF N) wr go 0 c).drewN q).heap.size = wr.heap.size := by
    show (wr.heap.modify go (onCells (putCells (encF N) 0 c))).size = _
    simp
  have hgoR : ((putRow (encF N) wr go 0 c).drewN q).heap[go]? = some (.cells (putCells (encF N) 0 c cur) 3 (0, 0)) := by
    show (wr.heap.modify go (onCells (putCells (encF N) 0 c)))[go]? = _
    rw [Array.getElem?_modify, if_pos rfl, i1]
    rfl
  have hb : Below wb.heap.size wb ((putRow (encF N) wr go 0 c).drewN q) := by
    refine ⟨?_, ?_, ?_, ?_, fun k hk => ?_⟩
    · show wr.os = _; rw [i4.os, ← hwc]; rfl
    · show wr.tape = _; rw [i4.tape, ← hwc]; rfl
    · show wr.output = _; rw [i4.output, ← hwc]; rfl
    · rw [hsz]; refine Nat.le_trans ?_ i4.size; rw [← hwc]; simp
    · rw [hheap k (by omega), i4.block k (by rw [← hwc]; simp; omega) (fun e => by injection e with e; omega), ← hwc, Below.heap_alloc _ _ _ hk]
  have hlt : ∀ k o, wb.heap[k]? = some o → k < wb.heap.size := fun k o hk => (Array.getElem?_eq_some_iff.1 hk).1
  have hD : ∀ j, doneB (fun t => (c[t]!).val) 0 j = false := fun j => rfl
  refine ⟨⟨hnl, h1, hgx, (hb.block _ (hlt _ _ b1)).trans b1, (hb.block _ (hlt _ _ b2)).trans b2, b4.keep (KeepN.below hb), ⟨C, (hb.block _ (hlt _ _ b3)).trans b3, hC1, fun s b hs hb' => ?_⟩, ⟨_, hgoR, fun t ht => ?_⟩, fun i x hx e => ?_, ?_, b6.trans (hb.mono b6.size)⟩, hM.1, fun j x hx => ?_⟩
  · rw [hC2 _ (by have := Nat.mul_le_mul_right 256 (show s + 1 ≤ n from hs); omega)]
    rfl
  · have := cell?_putRow (encF N) wr go 0 d c hHo hcs t (by omega)
    rw [cell_of_row (putRow (encF N) wr go 0 c) go _ _ 3 (0, 0) hgoR, Nat.zero_add] at this
    exact this
  · have := ((b4.outs i x hx).lt go e).2
    omega
  · obtain ⟨o, ho, _⟩ := b5.isMap
    exact b5.of_heap (hb.block _ (hlt _ _ ho))
  · obtain ⟨q1, q2, q3, q4, q5⟩ := hM.2 j x hx
    exact ⟨q1, q2, q3, q4, q5⟩
/-- The order: none twice, the shorter ones ahead. -/
structure OrdOk (T : List Wd) (n : Nat) (ord : Nat → Nat) : Prop where
  lt : ∀ t, ord t < n
  inj : ∀ t t', t < n → t' < n → ord t = ord t' → t = t'
  ahead : ∀ t j, t < n → j < n → depT T j < depT T (ord t) → ∃ t', t' < t ∧ ord t' = j
  all : ∀ j, j < n → ∃ t, t < n ∧ ord t = j
theorem order_all {N : Nat} {d0 d : Array (Fin (N + 1))} (h0 : d0.size = N + 1) (hid : ∀ j, j < N + 1 → (d0[j]!).val = j) (hp : PermIn 0 (N + 1) d0 d) : ∀ j, j < N + 1 → ∃ t, t < N + 1 ∧ (d[t]!).val = j := by
  have hsz : d.size = N + 1 := hp.1.trans h0
  have hpl : d.toList.Perm d0.toList := by
    have := hp.2.2
    rwa [Array.extract_eq_self_of_le (by omega), Array.extract_eq_self_of_le (by omega)] at this
  intro j hj
  have hm : d0[j]'(by omega) ∈ d.toList := by
    rw [hpl.mem_iff]
    simp
  obtain ⟨t', ht', e⟩ := List.getElem_of_mem hm
  have ht2 : t' < N + 1 := by simpa [hsz] using ht'
  have e1 := hid j hj
  rw [getElem!_pos d0 j (by omega), ← e] at e1
  refine ⟨t', ht2, ?_⟩
  rw [getElem!_pos d t' (by omega)]
  simpa using e1
theorem order_of {N n : Nat} {T : List Wd} {c : Array (Fin (N + 1))} (h : (∀ t t', t < N + 1 → t' < N + 1 → c[t]! = c[t']! → t = t') ∧ ∀ t (j : Fin (N + 1)), t < N + 1 → depF T N j < depF T N c[t]! → ∃ t', t' < t ∧ c[t']! = j) (ha : ∀ j, j < N + 1 → ∃ t, t < N + 1 ∧ (c[t]!).val = j) (hn : n = N + 1) : OrdOk T n (fun t => (c[t]!).val) := by
  subst hn
  refine ⟨fun t => (c[t]!).isLt, fun t t' ht ht' e => h.1 t t' ht ht' (Fin.ext e), fun t j ht hj hd => ?_, ha⟩
  obtain ⟨t', h1, h2⟩ := h.2 t ⟨j, hj⟩ ht (by show ((depT T j : Nat) : Int) < ((depT T (c[t]!).val : Nat) : Int); exact Int.ofNat_lt.2 hd)
  exact ⟨t', h1, by show (c[t']!).val = j; rw [h2]⟩
/-- The first t states of the order are done. -/
def LinkL (w0 w : World) (bx pa g gx go gn cn n : Nat) (cnt lon : Int) (T ps : List Wd) (ord : Nat → Nat) (t : Nat) : Prop :=
  ∃ nds, LinkM w0 w bx pa g gx go gn cn n cnt lon T ord nds (nxD T (doneB ord t)) ∧ MatchL T ps (doneB ord t) nds
theorem still_load_mid {P : Program} {w : World} {o : Oper} {a : Act} {K : Act → Prop} (ty : TypeId) (x : Operand) (ho : o.op = .load ty x) (b off : Nat) (hx : a.eval x = .pointer (some ⟨b, off, none⟩)) (cs : List Value) (d : TypeDesc) (hc : w.rangeAt b off cs)
    (hu : P.underlying ty = some d) (hd : d.isRow = true) (hi : (P.info? ty).map (·.size) = some cs.length) (h : K (a.put o.dst (.agg cs.toArray))) : o.still P a w K := by
  unfold Oper.still execOp
  simp only [ho, hx, Instr.loadAt, Instr.sureAddr, Sem.run_bind, Sem.run_pure, Result.andThen_ok, run_loadVar_mid w b off ty cs d hc hu hd hi]
  rw [Oper.stillUpon_value]
  exact h
theorem done_succ {ord : Nat → Nat} {t j : Nat} : doneB ord (t + 1) j = (doneB ord t j || ord t == j) := by
  unfold doneB
  rw [List.range_succ, List.any_append]
  simp
theorem not_done {T : List Wd} {n : Nat} {ord : Nat → Nat} (hO : OrdOk T n ord) {t : Nat} (ht : t < n) : doneB ord t (ord t) = false := by
  rw [Bool.eq_false_iff]
  intro h
  obtain ⟨t', h1, h2⟩ := done_iff.1 h
  have := hO.inj t' t (by omega) ht h2
  omega
theorem set_self {α : Type} {l : List α} {i : Nat} {x : α} (h : l[i]? = some x) : l.set i x = l := by
  apply List.ext_getElem?
  intro j
  rw [List.getElem?_set]
  split
  · rename_i e; subst e
    split
    · exact h.symm
    · rename_i hn; rw [List.getElem?_eq_none (by omega)]
  · rfl
/-- State s has its fail and outs; its row is that of the fail. -/
def MidI (w0 w : World) (bx pa g gx go gn cn n : Nat) (cnt lon : Int) (T ps : List Wd) (ord : Nat → Nat) (t s : Nat) : Prop :=
  ∃ (nds : List Nd) (f : Nat → Int), LinkM w0 w bx pa g gx go gn cn n cnt lon T ord nds (fun s' b => if s' = s then f b else nxD T (doneB ord t) s' b) ∧ MatchL T ps (doneB ord (t + 1)) nds ∧
    ∀ b : Nat, b < 256 → ((nxT T s (b : Int) : Nat) : Int) = if T.getD s [] ++ [(b : Int)] ∈ T then ((T.idxOf (T.getD s [] ++ [(b : Int)]) : Nat) : Int) else f b
section
variable {w0 w w1 : World} {bx pa g gx go gn cn n : Nat} {cnt lon : Int} {T ps : List Wd} {ord : Nat → Nat} {t s : Nat} {nds : List Nd} {x : Nd}
theorem match_next (hT : TrieI T) (hO : OrdOk T n ord) (hn : n = T.length) (ht : t < n) (hs : ord t = s) (hL : MatchL T ps (doneB ord t) nds) (hx : nds[s]? = some x) (v : Value) :
    MatchL T ps (doneB ord (t + 1)) (nds.set s { x with fail := ((flT T s : Nat) : Int), out := v, outs := outsW ps (T.getD s []) }) := by
  refine ⟨by rw [List.length_set]; exact hL.1, fun j y hy => ?_⟩
  rw [done_succ, hs]
  rw [List.getElem?_set] at hy
  split at hy
  · rename_i e; subst e
    split at hy
    · injection hy with hy; subst hy
      obtain ⟨q1, q2, q3, q4, q5⟩ := hL.2 s x hx
      have e1 : (doneB ord t s || s == s) = true := by simp
      rw [e1]
      exact ⟨q1, q2, q3, by rw [if_pos rfl], by rw [if_pos rfl]⟩
    · cases hy
  · rename_i e
    have e1 : (s == j) = false := by simpa using e
    rw [e1, Bool.or_false]
    exact hL.2 j y hy
theorem nxD_same (hd : doneB ord t s = false) (f : Nat → Int) (hf : ∀ b, f b = 0) : (fun s' b => if s' = s then f b else nxD T (doneB ord t) s' b) = nxD T (doneB ord t) := by
  funext s' b
  by_cases e : s' = s
  · subst e
    simp only [if_pos]
    unfold nxD
    rw [hd, hf]; rfl
  · simp only [if_neg e]
theorem mid_zero (hT : TrieI T) (hO : OrdOk T n ord) (hn : n = T.length) (ht : t < n) (hs : ord t = 0) (hps : ∀ p ∈ ps, p ∈ T ∧ p ≠ []) (hM : LinkM w0 w bx pa g gx go gn cn n cnt lon T ord nds (nxD T (doneB ord t))) (hL : MatchL T ps (doneB ord t) nds) :
    MidI w0 w bx pa g gx go gn cn n cnt lon T ps ord t 0 := by
  have hd : doneB ord t 0 = false := by have := not_done hO ht; rwa [hs] at this
  obtain ⟨x, hx⟩ : ∃ x, nds[0]? = some x := ⟨_, List.getElem?_eq_getElem (by rw [hL.1]; exact hT.pos)⟩
  obtain ⟨q1, q2, q3, q4, q5⟩ := hL.2 0 x hx
  rw [hd] at q4 q5
  have hz : T.getD 0 [] = [] := hT.zero
  have ho := outs_nil ps (fun p hp => (hps p hp).2)
  have hfl : flT T 0 = 0 := by
    unfold flT
    rw [hz]
    show T.idxOf (lsuf T []) = 0
    exact hT.idx_nil
  have hm := match_next hT hO hn ht hs hL hx x.out
  have e : ({ x with fail := ((flT T 0 : Nat) : Int), out := x.out, outs := outsW ps (T.getD 0 []) } : Nd) = x := by
    rw [hfl, hz, ho.1]
    rw [hz] at q5
    have q4 : x.fail = 0 := q4
    have q5 : x.outs = [] := by rw [q5]; exact ho.2
    cases x
    simp_all
  rw [e, set_self hx] at hm
  refine ⟨nds, fun _ => 0, ?_, hm, fun b hb => ?_⟩
  · rw [nxD_same hd _ (fun _ => rfl)]; exact hM
  · by_cases h : T.getD 0 [] ++ [(b : Int)] ∈ T
    · rw [if_pos h, nx_edge hT hT.pos _ h]
    · rw [if_neg h, nx_zero hT _ (by rw [hz] at h; exact h)]; rfl
theorem _root_.Go.World.ownsRow.frozenAt_ {w : World} {base : Nat} {e : TypeId} {size m g k cap : Nat} {xs : List Value} (h : w.ownsRow base e size (.slice (some ⟨g, 0, none⟩) m cap) k xs) (j : Nat) : w.frozen? ⟨g, j, none⟩ = false := by
  obtain ⟨cells, hc⟩ := own_typed h g rfl
  exact frozen_of_row _ _ _ _ _ hc
theorem done_of {j : Nat} (hO : OrdOk T n ord) (ht : t < n) (hs : ord t = s) (hj : j < n) (hd : depT T j < depT T s) : doneB ord t j = true := by
  rw [done_iff]
  exact hO.ahead t j ht hj (by rw [hs]; exact hd)
def FailF (w : World) (gn gx n : Nat) (T : List Wd) (s : Nat) : Prop := ∃ fy bn nx : Nat, fy < n ∧ bn < 256 ∧ nx < n ∧ nx = flT T s ∧ w.cell? ⟨gn, parT T s * 5 + 3, none⟩ = some (.int .i64 (fy : Int)) ∧ w.cell? ⟨gn, s * 5 + 1, none⟩ = some (.int .u8 (bn : Int)) ∧ w.cell? ⟨gx, fy * 256 + bn, none⟩ = some (.int .i32 (nx : Int))
theorem fail_facts (hT : TrieI T) (hO : OrdOk T n ord) (hn : n = T.length) (ht : t < n) (hs : ord t = s) (hs0 : s ≠ 0) (hby : ∀ x ∈ T, ∀ b ∈ x, 0 ≤ b ∧ b ≤ 255) (hM : LinkM w0 w bx pa g gx go gn cn n cnt lon T ord nds (nxD T (doneB ord t))) (hL : MatchL T ps (doneB ord t) nds) (hx : nds[s]? = some x) :
    parT T s < n ∧ w.cell? ⟨gn, s * 5, none⟩ = some (.int .i64 ((parT T s : Nat) : Int)) ∧ w.cell? ⟨gn, s * 5 + 3, none⟩ = some (.int .i64 0) ∧ w.frozen? ⟨gn, s * 5 + 3, none⟩ = false ∧ x.fail = 0 ∧ (parT T s = 0 → flT T s = 0) ∧ (parT T s ≠ 0 → FailF w gn gx n T s) := by
  have hsl : s < T.length := by rw [← hn, ← hs]; exact hO.lt t
  have hd : doneB ord t s = false := by have := not_done hO ht; rwa [hs] at this
  obtain ⟨q1, q2, q3, q4, q5⟩ := hL.2 s x hx
  rw [hd] at q4
  have q4 : x.fail = 0 := q4
  have hl := hM.len
  have hc := fun (j : Nat) (y : Nd) (hy : nds[j]? = some y) (k : Nat) (hk : k < 5) => by
    have := hM.nodes
    rw [← hl] at this
    exact this.cell hy (j := k) hk
  have hf : w.frozen? ⟨gn, s * 5 + 3, none⟩ = false := hM.nodes.row.frozenAt_ (s * 5 + 3)
  have hpl := par_lt hT hsl
  refine ⟨by omega, ?_, ?_, hf, q4, fl_first hT hsl hs0, fun hp => ?_⟩
  · have := hc s x hx 0 (by decide)
    rw [Nat.add_zero] at this
    rw [this]
    show some (Value.int .i64 x.par) = _
    rw [q1]
  · rw [hc s x hx 3 (by decide)]
    show some (Value.int .i64 x.fail) = _
    rw [q4]
  · have hpy : parT T s < nds.length := by rw [hL.1]; exact hpl
    have hdp := done_of hO ht hs (j := parT T s) (by omega) (dep_par hT hsl hs0)
    obtain ⟨r1, r2, r3, r4, r5⟩ := hL.2 (parT T s) _ (List.getElem?_eq_getElem hpy)
    rw [if_pos hdp] at r4
    have hfl := fl_lt hT hpl
    have hdf := done_of hO ht hs (j := flT T (parT T s)) (by omega) (Nat.lt_trans (dep_fl hT hpl hp) (dep_par hT hsl hs0))
    have hbb : 0 ≤ byT T s ∧ byT T s ≤ 255 := by
      refine hby _ (get_mem hsl) _ ?_
      have := split_word (word_ne hT hsl hs0)
      unfold byT
      rw [← this]
      simp
    refine ⟨flT T (parT T s), (byT T s).toNat, flT T s, by omega, by omega, by have := fl_lt hT hsl; omega, rfl, ?_, ?_, ?_⟩
    · rw [hc _ _ (List.getElem?_eq_getElem hpy) 3 (by decide)]
      show some (Value.int .i64 (nds[parT T s]'hpy).fail) = _
      rw [r4]
    · rw [hc s x hx 1 (by decide)]
      show some (Value.int .u8 x.b) = _
      rw [q2, Int.toNat_of_nonneg hbb.1]
    · rw [hM.next.cell (by omega) (by omega)]
      unfold nxD
      rw [if_pos hdf, Int.toNat_of_nonneg hbb.1, ← fl_step hT hsl hs0 hp]
theorem LinkM.ncell {NX : Nat → Nat → Int} (h : LinkM w0 w bx pa g gx go gn cn n cnt lon T ord nds NX) {i : Nat} {x : Nd} (hx : nds[i]? = some x) {j : Nat} (hj : j < 5) : w.cell? ⟨gn, i * 5 + j, none⟩ = x.cells[j]? := by
  have := h.nodes
  rw [← h.len] at this
  exact this.cell hx hj
theorem outs_len (hpl : ps.length ≤ 64) (u : Wd) : (outsW ps u).length ≤ 64 ∧ (ownW ps u).length ≤ 64 := by
  unfold outsW ownW idsW
  exact ⟨by rw [List.length_map]; exact Nat.le_trans (List.length_filter_le _ _) (by rw [List.length_range]; exact hpl), by rw [List.length_map]; exact Nat.le_trans (List.length_filter_le _ _) (by rw [List.length_range]; exact hpl)⟩
theorem app_facts {NX : Nat → Nat → Int} (hT : TrieI T) (hO : OrdOk T n ord) (hn : n = T.length) (ht : t < n) (hs : ord t = s) (hs0 : s ≠ 0) (hpl : ps.length ≤ 64) (hM : LinkM w0 w bx pa g gx go gn cn n cnt lon T ord (nds.set s { x with fail := ((flT T s : Nat) : Int) }) NX) (hL : MatchL T ps (doneB ord t) nds) (hx : nds[s]? = some x) :
    (x.outs = ownW ps (T.getD s []) ∧ (ownW ps (T.getD s [])).length ≤ 64 ∧ (outsW ps (T.getD (flT T s) [])).length ≤ 64) ∧ ∃ (fl : Nat), fl = flT T s ∧ fl < n ∧ ∃ y : Nd, y.outs = outsW ps (T.getD (flT T s) []) ∧ w.cell? ⟨gn, fl * 5 + 4, none⟩ = some y.out ∧ w.ownsRow w0.heap.size 3 1 y.out y.outs.length (nums .i64 y.outs) := by
  have hsl : s < T.length := by rw [← hn, ← hs]; exact hO.lt t
  have hd : doneB ord t s = false := by have := not_done hO ht; rwa [hs] at this
  have hf := fl_lt hT hsl
  have hdf := done_of hO ht hs (j := flT T s) (by omega) (dep_fl hT hsl hs0)
  have hfn : flT T s < nds.length := by rw [hL.1]; exact hf
  have hne : s ≠ flT T s := fun e => by rw [← e] at hdf; rw [hd] at hdf; cases hdf
  obtain ⟨q1, q2, q3, q4, q5⟩ := hL.2 s x hx
  obtain ⟨r1, r2, r3, r4, r5⟩ := hL.2 (flT T s) _ (List.getElem?_eq_getElem hfn)
  rw [hd] at q5
  rw [if_pos hdf] at r5
  have hy : (nds.set s { x with fail := ((flT T s : Nat) : Int) })[flT T s]? = some (nds[flT T s]'hfn) := by
    rw [List.getElem?_set_ne hne, List.getElem?_eq_getElem hfn]
  refine ⟨⟨q5, (outs_len hpl _).2, (outs_len hpl _).1⟩, _, rfl, by omega, _, r5, hM.ncell hy (by decide), hM.nodes.outs _ _ hy⟩
theorem app_done {NX : Nat → Nat → Int} {y : Nd} {xo v2 : Value} {xs ys : List Int} {w2 : World} (hM : LinkM w0 w bx pa g gx go gn cn n cnt lon T ord (nds.set s { x with fail := ((flT T s : Nat) : Int) }) NX) (hg : w.drew.grownBy w2 xo.ownBlock) (ho : w2.ownsRow w0.heap.size 3 1 v2 (xs ++ ys).length (encs (Value.int .i64) (xs ++ ys))) (hat : v2.ownBlock = xo.ownBlock ∨ ∃ b, v2.ownBlock = some b ∧ w.drew.heap.size ≤ b)
    (hx : (nds.set s { x with fail := ((flT T s : Nat) : Int) })[s]? = some { x with fail := ((flT T s : Nat) : Int) }) (hxo : x.out = xo) (hxs : x.outs = xs) (hys : y.outs = ys) (h1 : x.outs = ownW ps (T.getD s [])) (h2 : y.outs = outsW ps (T.getD (flT T s) [])) (h3 : T.getD (flT T s) [] = failW T (T.getD s [])) :
    LinkM w0 (w2.setCell ⟨gn, s * 5 + 4, none⟩ v2) bx pa g gx go gn cn n cnt lon T ord (nds.set s { x with fail := ((flT T s : Nat) : Int), out := v2, outs := ownW ps (T.getD s []) ++ outsW ps (failW T (T.getD s [])) }) NX := by
  subst hxo
  have := hM.drew.setOut hx hg ho (hat.imp id (fun ⟨b, h1, h2⟩ k hk => by rw [h1] at hk; injection hk with hk; subst hk; exact h2))
  rw [List.set_set] at this
  rw [← hxs, ← hys, h1, h2, h3] at this
  exact this
/-- A state's outs are sorted. -/
theorem sort_out {NX : Nat → Nat → Int} {nds : List Nd} {x : Nd} (hM : LinkM w0 w bx pa g gx go gn cn n cnt lon T ord nds NX) (hx : nds[s]? = some x) (hl : x.outs.length ≤ 128) :
    Calls Try.prog 61 #[x.out] w fun e w' => e = .returned (.tuple #[]) ∧ LinkM w0 w' bx pa g gx go gn cn n cnt lon T ord (nds.set s { x with outs := x.outs.mergeSort fun a b => decide (a ≤ b) }) NX := by
  have ho := hM.nodes.outs s x hx
  rcases Nat.eq_zero_or_pos x.outs.length with h0 | h0
  · obtain ⟨A, c, hv⟩ := own_slice ho
    have hnil := List.eq_nil_of_length_eq_zero h0
    rw [show (#[x.out] : Array Value) = #[.slice A 0 c] from by rw [hv, h0]]
    refine (Try.slices_Sort_int_none A c w).mono ?_
    rintro e w' ⟨rfl, rfl⟩
    refine ⟨rfl, ?_⟩
    have e : ({ x with outs := x.outs.mergeSort fun a b => decide (a ≤ b) } : Nd) = x := by
      rw [hnil, List.mergeSort_nil]
      show (⟨x.par, x.b, x.dep, x.fail, x.out, []⟩ : Nd) = x
      rw [show ([] : List Int) = x.outs from hnil.symm]
    rw [e, set_self hx]
    exact hM
  · rcases ho.2 with ⟨_, h1⟩ | ⟨g2, cap, cur, hv, hb, hg, hn, hcm, hcs, htk⟩
    · omega
    · have hH : Go.Sort.Holds (Value.int .i64) w g2 0 x.outs.toArray := holds_of_blockI hg (by rw [Nat.mul_one] at htk; exact htk)
      rw [show (#[x.out] : Array Value) = #[.slice (some ⟨g2, 0, none⟩) x.outs.length cap] from by rw [hv]]
      refine (Try.slices_Sort_int g2 0 cap x.outs w hH (Array.getElem?_eq_some_iff.1 hg).1 (by omega)).mono ?_
      rintro e w' ⟨rfl, q, os, rfl⟩
      refine ⟨rfl, hM.sortOut hx ?_ ?_⟩
      · rw [hv]; exact grownBy_sortedI _
      · rw [hv]
        have := ownsRow_sortedI (n := q) (os := os) (ss := x.outs) (ts := x.outs.mergeSort fun a b => decide (a ≤ b)) (by simp) hb hg hn hcm hcs
        rw [List.length_mergeSort]
        exact this
end
/-- State s's row under way: the bytes below b are done. -/
def nxR (T : List Wd) (D : Nat → Bool) (s : Nat) (f : Nat → Int) (b s' b' : Nat) : Int := if s' = s then (if b' < b then ((nxT T s (b' : Int) : Nat) : Int) else f b') else nxD T D s' b'
theorem NextI.congr {w : World} {gx n : Nat} {NX NX' : Nat → Nat → Int} (h : NextI w gx n NX) (e : ∀ s b, s < n → b < 256 → NX s b = NX' s b) : NextI w gx n NX' := by
  obtain ⟨cur, h1, h2, h3⟩ := h
  exact ⟨cur, h1, h2, fun s b hs hb => by rw [h3 s b hs hb, e s b hs hb]⟩
theorem LinkM.congr {w0 w : World} {bx pa g gx go gn cn n : Nat} {cnt lon : Int} {T : List Wd} {ord : Nat → Nat} {nds : List Nd} {NX NX' : Nat → Nat → Int} (h : LinkM w0 w bx pa g gx go gn cn n cnt lon T ord nds NX) (e : ∀ s b, s < n → b < 256 → NX s b = NX' s b) : LinkM w0 w bx pa g gx go gn cn n cnt lon T ord nds NX' :=
  ⟨h.len, h.bpa, h.bgx, h.box, h.auto, h.nodes, h.next.congr e, h.order, h.outgo, h.map, h.below⟩
theorem row_in {T : List Wd} {D : Nat → Bool} {s b : Nat} {f : Nat → Int} {z : Int} (h : ((nxT T s (b : Int) : Nat) : Int) = z) (s' b' : Nat) : (if s' = s ∧ b' = b then z else nxR T D s f b s' b') = nxR T D s f (b + 1) s' b' := by
  unfold nxR
  by_cases e : s' = s
  · subst e
    by_cases e2 : b' = b
    · subst e2; simp [h]
    · simp only [e2, and_false, if_false, if_true]
      by_cases e3 : b' < b
      · rw [if_pos e3, if_pos (by omega)]
      · rw [if_neg e3, if_neg (by omega)]
  · simp only [e, false_and, if_false]
theorem row_out {T : List Wd} {D : Nat → Bool} {s b : Nat} {f : Nat → Int} (h : ((nxT T s (b : Int) : Nat) : Int) = f b) (s' b' : Nat) : nxR T D s f b s' b' = nxR T D s f (b + 1) s' b' := by
  unfold nxR
  by_cases e : s' = s
  · simp only [e, if_true]
    by_cases e2 : b' = b
    · subst e2; simp [h]
    · by_cases e3 : b' < b
      · rw [if_pos e3, if_pos (by omega)]
      · rw [if_neg e3, if_neg (by omega)]
  · simp only [e, if_false]
theorem row_end {T : List Wd} {ord : Nat → Nat} {t s : Nat} {f : Nat → Int} (hs : ord t = s) (s' b' : Nat) (hb : b' < 256) : nxR T (doneB ord t) s f 256 s' b' = nxD T (doneB ord (t + 1)) s' b' := by
  unfold nxR nxD
  rw [done_succ, hs]
  by_cases e : s' = s
  · subst e; simp [hb]
  · have e1 : (s == s') = false := by simpa using Ne.symm e
    simp only [e, if_false, e1, Bool.or_false]
/-- What link leaves: the machine is whole. -/
def LinkEnd (w0 : World) (pa : Nat) (cnt lon : Int) (T ps : List Wd) (e : Ending) (w' : World) : Prop := e = .returned (.tuple #[]) ∧ AutoAt w' pa cnt lon T ps ∧ Below w0.heap.size w0 w'
theorem link_end {w0 w : World} {bx pa g gx go gn cn n : Nat} {cnt lon : Int} {T ps : List Wd} {ord : Nat → Nat} (hT : TrieI T) (hO : OrdOk T n ord) (hn : n = T.length) (h : LinkL w0 w bx pa g gx go gn cn n cnt lon T ps ord n) : LinkEnd w0 pa cnt lon T ps (.returned (.tuple #[])) w := by
  obtain ⟨nds, hM, hL⟩ := h
  have hd : ∀ j, j < n → doneB ord n j = true := fun j hj => done_iff.2 (hO.all j hj)
  subst hn
  refine ⟨rfl, ⟨w0.heap.size, gn, cn, gx, nds, hM.auto, hM.nodes, hL.1, fun j x hx => ?_, hM.next.congr fun s b hs hb => ?_, hT⟩, hM.below⟩
  · have hj : j < T.length := by have := (List.getElem?_eq_some_iff.1 hx).1; rw [hL.1] at this; exact this
    obtain ⟨q1, q2, q3, q4, q5⟩ := hL.2 j x hx
    rw [hd j hj] at q4 q5
    exact ⟨q1, q2, q3, q4, q5⟩
  · unfold nxD
    rw [if_pos (hd s hs)]
set_option maxHeartbeats 8000000 in
set_option maxRecDepth 1000000 in
theorem link_calls (w0 w : World) (pa g N : Nat) (cnt lon : Int) (T : List Wd) (ps : List Wd) (hN : T.length = N + 1) (hle : N ≤ 4000) (h : LayAt w w0.heap.size pa g cnt lon T (ownW ps)) (hB : Below w0.heap.size w0 w) (hps : ∀ p ∈ ps, p ∈ T ∧ p ≠ []) (hpl : ps.length ≤ 64) (h32 : ∀ x ∈ T, x.length ≤ 32) (hby : ∀ x ∈ T, ∀ b ∈ x, 0 ≤ b ∧ b ≤ 255) :
    Calls Try.prog 50 #[.pointer (some ⟨pa, 0, none⟩), .map (some g)] w (LinkEnd w0 pa cnt lon T ps) := by
  obtain ⟨vn, nds, h1, h2, h3, h4, h5, h6, h7, h8⟩ := h
  have hn0 : 0 < nds.length := by rw [h5.1, hN]; omega
  obtain ⟨gn, cn, rfl, hnc, hgb, cur, hgn⟩ := h4.form hn0
  obtain ⟨n, hn⟩ : ∃ n, nds.length = n := ⟨_, rfl⟩
  rw [hn] at h3 h4 hnc hn0
  have hnN : n = N + 1 := by rw [← hn, h5.1, hN]
  obtain ⟨C, hC1, hC2, hmk⟩ := next_mk n (by omega)
  obtain ⟨C3, hD1, hmk3⟩ := ord_mk n (by omega)
  have hlp : pa < w.heap.size := (Array.getElem?_eq_some_iff.1 h3).1
  have HC2 := Lib.hid hC2
  have HC1 := Lib.hid hC1
  have HD1 := Lib.hid hD1
  have H3 := Lib.hid h3
  have H4 := Lib.hid h4
  have H5 := Lib.hid h5
  have H6 := Lib.hid h6
  have H7 := Lib.hid h7
  have HG := Lib.hid hgn
  have HN := Lib.hid hN
  have HNN := Lib.hid hnN
  have HNL := Lib.hid hn
  have HPS := Lib.hid hps
  have HT32 := Lib.hid h32
  have HBY := Lib.hid hby
  have hnb : n ≤ 4001 := by omega
  have ca : (w.alloc (.cells #[.pointer (some ⟨pa, 0, none⟩)] 24)).drew.cell? ⟨pa, 0, none⟩ = some (.slice (some ⟨gn, 0, none⟩) n cn) := by
    show (w.alloc _).cell? _ = _
    rw [World.cell?_of_block (Below.heap_alloc w _ pa hlp)]
    simp [World.cell?, h3]
  have cb : (w.alloc (.cells #[.pointer (some ⟨pa, 0, none⟩)] 24)).drew.cell? ⟨w.heap.size, 0, none⟩ = some (.pointer (some ⟨pa, 0, none⟩)) := by
    show (w.alloc _).cell? _ = _
    rw [cell_of_row _ _ _ _ _ _ (heap_alloc_new w _)]
    rfl
  have hpa1 : (w.alloc (.cells #[.pointer (some ⟨pa, 0, none⟩)] 24)).heap[pa]? = some (.cells #[.slice (some ⟨gn, 0, none⟩) n cn, .slice none 0 0, .int .i64 cnt, .int .i64 lon] 80 (0, 0)) := by rw [Below.heap_alloc w _ pa hlp, h3]
  have cl : ∀ o, ((w.alloc (.cells #[.pointer (some ⟨pa, 0, none⟩)] 24)).alloc o).cell? ⟨pa, 1, none⟩ = some (.slice none 0 0) := fun o => by
    rw [World.cell?_of_block (Below.heap_alloc _ o pa (by simp; omega)), cell_of_row _ _ _ _ _ _ hpa1]
    rfl
  have fl : ∀ o, ((w.alloc (.cells #[.pointer (some ⟨pa, 0, none⟩)] 24)).alloc o).frozen? ⟨pa, 1, none⟩ = false := fun o => by
    rw [World.frozen?_of_block (Below.heap_alloc _ o pa (by simp; omega))]
    exact frozen_of_row _ _ _ _ _ hpa1
  clear hC2 hC1 hD1 h3 h4 h5 h6 h7 h8 hgn hN hnN hn hps h32 hby
  go_enter Try.func50, Try.ntmps50
  go_wp2_with fail
  have HPA1 := Lib.hid hpa1
  clear hpa1
  generalize hwq : w.alloc (.cells #[.pointer (some ⟨pa, 0, none⟩)] 24) = wq at ca cb cl fl HPA1 ⊢
  have HW := Lib.hid hwq
  clear hwq
  refine start_ (n := 10) (S := (fun w' => w'.cell? ⟨w.heap.size, 0, none⟩ = some (.pointer (some ⟨pa, 0, none⟩)) ∧ w'.cell? ⟨pa, 0, none⟩ = some (.slice (some ⟨gn, 0, none⟩) n cn))) (ds := [9]) #[false, false, false, false, false, false, false, false, false, false] (by kernel_rfl) rfl rfl ?_ (fun hHeld => ?_)
  · exact ⟨cb, ca⟩
  refine take_ (i := 0) (N := some 12) (v := ?_) (a' := ?_) #[true, false, false, false, false, false, false, false, false, false] rfl rfl (by kernel_rfl) (fun _ _ _ h => h) (Or.inl ⟨by rfl, ?_⟩) hHeld ?_ ?_
  rotate_left
  · rintro w' ⟨s0, s1⟩
    go_simp
    with_reducible rfl
  rotate_left
  · simp only [Act.put, List.setIfInBounds_toArray, List.set_cons_zero, List.set_cons_succ, i64_w, i32_w]
    rfl
  refine take_ (i := 1) (N := some 13) (v := ?_) (a' := ?_) #[true, true, false, false, false, false, false, false, false, false] rfl rfl (by kernel_rfl) (fun _ _ _ h => h) (Or.inl ⟨by rfl, ?_⟩) hHeld ?_ ?_
  rotate_left
  · rintro w' ⟨s0, s1⟩
    go_simp
    with_reducible rfl
  rotate_left
  · simp only [Act.put, List.setIfInBounds_toArray, List.set_cons_zero, List.set_cons_succ, i64_w, i32_w]
    rfl
  refine pure_ (i := 2) (N := some 14) (v := ?_) (a' := ?_) #[true, true, true, false, false, false, false, false, false, false] rfl rfl (by kernel_rfl) (fun _ _ _ h => h) (Or.inl ⟨by rfl, ?_⟩) ?_ ?_
  rotate_left
  · intro w'
    go_simp
    with_reducible rfl
  rotate_left
  · simp only [Act.put, List.setIfInBounds_toArray, List.set_cons_zero, List.set_cons_succ, i64_w, i32_w]
    rfl
  refine pure_ (i := 3) (N := some 15) (v := ?_) (a' := ?_) #[true, true, true, true, false, false, false, false, false, false] rfl rfl (by kernel_rfl) (fun _ _ _ h => h) (Or.inl ⟨by rfl, ?_⟩) ?_ ?_
  rotate_left
  · intro w'
    go_simp
    with_reducible rfl
  rotate_left
  · simp only [Act.put, List.setIfInBounds_toArray, List.set_cons_zero, List.set_cons_succ, i64_w, i32_w]
    rfl
  refine take_ (i := 4) (N := some 16) (v := ?_) (a' := ?_) #[true, true, true, true, true, false, false, false, false, false] rfl rfl (by kernel_rfl) (fun _ _ _ h => h) (Or.inl ⟨by rfl, ?_⟩) hHeld ?_ ?_
  rotate_left
  · rintro w' ⟨s0, s1⟩
    go_simp
    with_reducible rfl
  rotate_left
  · simp only [Act.put, List.setIfInBounds_toArray, List.set_cons_zero, List.set_cons_succ, i64_w, i32_w]
    rfl
  refine pure_ (i := 5) (N := some 17) (v := ?_) (a' := ?_) #[true, true, true, true, true, true, false, false, false, false] rfl rfl (by kernel_rfl) (fun _ _ _ h => h) (Or.inl ⟨by rfl, ?_⟩) ?_ ?_
  rotate_left
  · intro w'
    go_simp
    with_reducible rfl
  rotate_left
  · simp only [Act.put, List.setIfInBounds_toArray, List.set_cons_zero, List.set_cons_succ, i64_w, i32_w]
    rfl
  refine one_ (i := 6) (N := some 18) #[true, true, true, true, true, true, true, false, false, false] rfl rfl (by kernel_rfl) (by decide) (fun K hK => ?_)
  refine value_ (v := ?_) (w1 := ?_) (by rfl) rfl ?_ ?_
  rotate_left 2
  · go_simp
    first | rfl | (refine ⟨?_, ?_⟩ <;> rfl)
  refine hK.out _ _ ⟨cell_alloc_drew_ hHeld.1, cell_alloc_drew_ hHeld.2⟩ (fun hHeld => ?_)
  clear hK K
  refine norm_ (a' := ?_) ?_ ?_
  rotate_left
  · show Act.put _ (some 18) _ = _
    simp only [Act.put, List.setIfInBounds_toArray, List.set_cons_zero, List.set_cons_succ, i64_w, i32_w]
    rfl
  refine pure_ (i := 7) (N := some 19) (v := ?_) (a' := ?_) #[true, true, true, true, true, true, true, true, false, false] rfl rfl (by kernel_rfl) (fun _ _ _ h => h) (Or.inl ⟨by rfl, ?_⟩) ?_ ?_
  rotate_left
  · intro w'
    go_simp
    with_reducible rfl
  rotate_left
  · simp only [Act.put, List.setIfInBounds_toArray, List.set_cons_zero, List.set_cons_succ, i64_w, i32_w]
    rfl
  refine pure_ (i := 8) (N := some 20) (v := ?_) (a' := ?_) #[true, true, true, true, true, true, true, true, true, false] rfl rfl (by kernel_rfl) (fun _ _ _ h => h) (Or.inl ⟨by rfl, ?_⟩) ?_ ?_
  rotate_left
  · intro w'
    go_simp
    with_reducible rfl
  rotate_left
  · simp only [Act.put, List.setIfInBounds_toArray, List.set_cons_zero, List.set_cons_succ, i64_w, i32_w]
    rfl
  refine last_ (i := 9) (N := none) #[true, true, true, true, true, true, true, true, true, true] rfl rfl (by kernel_rfl) (by decide) (fun K hK => ?_)
  refine skip_ (w1 := ?_) (by rfl) rfl ?_ ?_
  rotate_left
  · go_simp
    rfl
  refine hK.out _ _ ?_
  clear hK K
  refine done_ (by kernel_rfl) ?_
  have hwqs : wq.heap.size = w.heap.size + 1 := by rw [← HW.out]; simp
  have HF := Lib.hid (link_first (x := .slice (some ⟨wq.heap.size, 0, none⟩) n n) H3.out H4.out H6.out hB h1 HW.out.symm C)
  have HWS := Lib.hid hwqs
  clear hwqs hHeld ca cb cl fl HPA1
  obtain ⟨gx, hgx⟩ : ∃ gx, gx = wq.heap.size := ⟨_, rfl⟩
  rw [← hgx] at HF HWS ⊢
  have HGX := Lib.hid hgx
  clear hgx
  obtain ⟨bx, hbx⟩ : ∃ bx, bx = w.heap.size := ⟨_, rfl⟩
  rw [← hbx] at HF HWS ⊢
  have HBX := Lib.hid hbx
  clear hbx
  generalize hwb : (wq.alloc (.cells C 86)).setCell ⟨pa, 1, none⟩ (.slice (some ⟨gx, 0, none⟩) n n) = wb at HF ⊢
  clear hwb HW HGX hmk
  have cb : wb.cell? ⟨bx, 0, none⟩ = some (.pointer (some ⟨pa, 0, none⟩)) := by rw [cell_of_row _ _ _ _ _ _ HF.out.1.1]; rfl
  have ca : wb.cell? ⟨pa, 0, none⟩ = some (.slice (some ⟨gn, 0, none⟩) n cn) := by rw [cell_of_row _ _ _ _ _ _ HF.out.1.2.1]; rfl
  have hnz : (0 : Int) < (n : Int) := by omega
  go_wp2
  have HG0 : Hid ((wb.alloc (.cells C3 3)).heap[wb.heap.size]? = some (.cells C3 3 (0, 0))) := heap_alloc_new wb _
  obtain ⟨go, hgo⟩ : ∃ go, go = wb.heap.size := ⟨_, rfl⟩
  rw [← hgo] at HG0 ⊢
  have HGO := Lib.hid hgo
  clear hgo ca cb hmk3
  generalize hwc : wb.alloc (.cells C3 3) = wc at HG0 ⊢
  have HWC := Lib.hid hwc
  clear hwc
  go_loopg [29] n (fun g1 vk wr => ∃ (k : Nat), vk = .int .i64 k ∧ k ≤ n ∧ n - k ≤ g1 ∧ Hid (IdI wc wr go n k))
  case atStart => exact ⟨0, rfl, Nat.zero_le _, Nat.le_refl _, ⟨C3, HG0.out, HD1.out, fun t ht => absurd ht (Nat.not_lt_zero t), ⟨rfl, rfl, rfl, Nat.le_refl _, fun _ _ _ => rfl⟩⟩⟩
  case round =>
    obtain ⟨k, rfl, hk, hg1, HI⟩ := hrel
    by_cases hlt : k < n
    · have hkz : (k : Int) < (n : Int) := by omega
      obtain ⟨u, hu⟩ := HI.out.cell hlt
      have hf := HI.out.frozen k
      go_wp2
      go_roundg (n - (k + 1))
      case measure => omega
      case rel => exact ⟨k + 1, by go_num, by omega, Nat.le_refl _, HI.out.set hlt⟩
    · obtain rfl : k = n := by omega
      have HM := Lib.hid (link_mid HF.out HGO.out HWC.out HI.out)
      obtain ⟨d, hd1, hd2⟩ := id_array N
      have hsort := sortStable_any N (depF T N) (.pointer (some ⟨bx, 0, none⟩)) go 0 k d wr (by omega) (link_cmp HNN.out HM.out.1 HM.out.2.1 (fun x hx => HM.out.2.2.1 T (ownW ps) HNL.out H5.out x hx) (dep_le HT32.out) HM.out.2.2.2.1 HM.out.2.2.2.2.1 HM.out.2.2.2.2.2) (id_holds HI.out HNN.out hd1 hd2) (by omega)
      rw [hd1, ← HNN.out] at hsort
      have HS := Lib.hid hsort
      clear hsort
      go_wp2_with fail
      refine HS.out.mono ?_
      rintro e w' ⟨rfl, c, q, hp, hs, rfl⟩
      have hst := link_start (q := q) HF.out HGO.out HWC.out HI.out HNL.out h1 (by have := HWS.out; have := hB.size; have := HBX.out; omega) HC1.out HC2.out HNN.out hd1 hd2 hp H5.out
      have hoa := order_ahead (depF T N) (ltD N (depF T N)) (fun x y => by unfold ltD ltOf cfD; congr 1; rw [eq_iff_iff]; omega) d c hd1 hd2 (by have h_ := hp; rw [hd1] at h_; exact h_) (by have h_ := hs; rw [hd1] at h_; exact h_)
      have HO := Lib.hid (order_of hoa (order_all hd1 hd2 (by have h_ := hp; rw [hd1] at h_; exact h_)) HNN.out)
      have HL : Hid (LinkL w0 _ bx pa g gx go gn cn k cnt lon T ps (fun t => (c[t]!).val) 0) := ⟨nds, hst.1, hst.2⟩
      clear hst hoa hp hs HM HS hd1 hd2 HI HWC HGO HG0 HF HC1 HC2 HD1 H3 H4 H5 H6 HG HNL HBX HWS
      generalize (putRow (encF N) wr go 0 c).drewN q = w2 at HL ⊢
      generalize (fun t : Nat => (c[t]!).val) = ord at HO HL
      go_wp2
      go_loopg [42] k (fun g1 vt wr => ∃ (t : Nat), vt = .int .i64 t ∧ t ≤ k ∧ k - t ≤ g1 ∧ Hid (LinkL w0 wr bx pa g gx go gn cn k cnt lon T ps ord t))
      case atStart => exact ⟨0, rfl, Nat.zero_le _, Nat.le_refl _, HL⟩
      case round =>
        clear HL
        obtain ⟨t, rfl, ht, hg2, HL⟩ := hrel
        by_cases hlt : t < k
        · have htz : (t : Int) < (k : Int) := by omega
          obtain ⟨nds, hM, hL⟩ := HL.out
          obtain ⟨s, hs⟩ : ∃ s, ord t = s := ⟨_, rfl⟩
          have hsk : s < k := by rw [← hs]; exact HO.out.lt t
          have cor : wr.cell? ⟨go, t, none⟩ = some (.int .i64 (s : Int)) := by rw [hM.order.cell hlt, hs]
          have cbx : wr.cell? ⟨bx, 0, none⟩ = some (.pointer (some ⟨pa, 0, none⟩)) := by rw [cell_of_row _ _ _ _ _ _ hM.box]; rfl
          have cp0 : wr.cell? ⟨pa, 0, none⟩ = some (.slice (some ⟨gn, 0, none⟩) k cn) := by rw [cell_of_row _ _ _ _ _ _ hM.auto]; rfl
          have hsz : (s : Int) < (k : Int) := by omega
          have HS := Lib.hid hs
          have HM := Lib.hid hM
          have HLL := Lib.hid hL
          clear hs hM hL
          have hkT : k = T.length := by rw [HN.out]; exact HNN.out
          have HKT := Lib.hid hkT
          clear hkT
          go_upto_if 53 with (fail)
          go_cut [] (fun wx => Hid (MidI w0 wx bx pa g gx go gn cn k cnt lon T ps ord t s))
          case first =>
            by_cases hs0 : s = 0
            · subst hs0
              have HMid : Hid (MidI w0 wr bx pa g gx go gn cn k cnt lon T ps ord t 0) := mid_zero H7.out HO.out HKT.out hlt HS.out HPS.out HM.out HLL.out
              go_wp2
              go_meet
              exact HMid
            · have hsnz : ((s : Int) != 0) = true := by simp; omega
              obtain ⟨x, hx⟩ : ∃ x, nds[s]? = some x := ⟨_, List.getElem?_eq_getElem (by rw [HM.out.len]; exact hsk)⟩
              obtain ⟨y1, y2, y3, y4, y5, y6, y7⟩ := fail_facts H7.out HO.out HKT.out hlt HS.out hs0 HBY.out HM.out HLL.out hx
              obtain ⟨y, hy⟩ : ∃ y, parT T s = y := ⟨_, rfl⟩
              rw [hy] at y1 y2 y6 y7
              have HX := Lib.hid hx
              have HY := Lib.hid hy
              have Y5 := Lib.hid y5
              have Y7 := Lib.hid y7
              have Y6 := Lib.hid y6
              clear hx hy y5 y6 y7
              go_upto_if 58 with (fail)
              go_cut [] (fun wx => Hid (LinkM w0 wx bx pa g gx go gn cn k cnt lon T ord (nds.set s { x with fail := ((flT T s : Nat) : Int) }) (nxD T (doneB ord t))))
              case first =>
                by_cases hy0 : y = 0
                · subst hy0
                  have HF0 : Hid (LinkM w0 wr bx pa g gx go gn cn k cnt lon T ord (nds.set s { x with fail := ((flT T s : Nat) : Int) }) (nxD T (doneB ord t))) := by
                    rw [Y6.out rfl]
                    have e : ({ x with fail := ((0 : Nat) : Int) } : Nd) = x := by
                      show (⟨x.par, x.b, x.dep, ((0 : Nat) : Int), x.out, x.outs⟩ : Nd) = x
                      rw [show ((0 : Nat) : Int) = x.fail from Y5.out.symm]
                    rw [e, set_self HX.out]
                    exact HM.out
                  go_wp2
                  go_meet
                  exact HF0
                · have hynz : ((y : Int) != 0) = true := by simp; omega
                  obtain ⟨fy, bn, nx, z1, z2, z3, z4, z5, z6, z7⟩ := Y7.out hy0
                  rw [HY.out] at z5
                  have Z4 := Lib.hid z4
                  have cp1 : wr.cell? ⟨pa, 1, none⟩ = some (.slice (some ⟨gx, 0, none⟩) k k) := by rw [cell_of_row _ _ _ _ _ _ HM.out.auto]; rfl
                  have b1 : (y : Int) < (k : Int) := by omega
                  have b2 : (fy : Int) < (k : Int) := by omega
                  have b3 : (bn : Int) < 256 := by omega
                  have b4 : IntKind.i64.wrap (nx : Int) = (nx : Int) := by rw [IntKind.wrap_i64]; omega
                  clear z4
                  go_wp2_with fail
                  go_still_tail 26, (by kernel_rfl)
                  change wpList _ _ _ _ _ wr.drew
                  go_wp2
                  go_meet
                  rw [← Z4.out]
                  exact Lib.hid (HM.out.setFail HX.out (nx : Int)).drew
              case rest =>
                have HM1 := Lib.hid hcut.out
                clear hcut
                generalize hw1 : wc = w1 at HM1 ⊢
                clear hw1
                go_upto_region 16 with (fail)
                go_cut [] (fun wx => Hid (∃ v2 : Value, LinkM w0 wx bx pa g gx go gn cn k cnt lon T ord (nds.set s { x with fail := ((flT T s : Nat) : Int), out := v2, outs := ownW ps (T.getD s []) ++ outsW ps (failW T (T.getD s [])) }) (nxD T (doneB ord t))))
                case first =>
                  obtain ⟨r1, fl, r2, r3, y, r4, r5, r6⟩ := app_facts H7.out HO.out HKT.out hlt HS.out hs0 hpl HM1.out HLL.out HX.out
                  obtain ⟨A, ca, r7, r8⟩ := own_reads r6
                  have HR1 := Lib.hid r1
                  have HR2 := Lib.hid r2
                  have HR8 := Lib.hid r8
                  have hx1 : (nds.set s { x with fail := ((flT T s : Nat) : Int) })[s]? = some { x with fail := ((flT T s : Nat) : Int) } := by rw [List.getElem?_set_self (by have := (List.getElem?_eq_some_iff.1 HX.out).1; exact this)]
                  have q0 : w1.cell? ⟨bx, 0, none⟩ = some (.pointer (some ⟨pa, 0, none⟩)) := by rw [cell_of_row _ _ _ _ _ _ HM1.out.box]; rfl
                  have q1 : w1.cell? ⟨pa, 0, none⟩ = some (.slice (some ⟨gn, 0, none⟩) k cn) := by rw [cell_of_row _ _ _ _ _ _ HM1.out.auto]; rfl
                  have q2 := HM1.out.ncell hx1 (j := 3) (by decide)
                  have q3 := HM1.out.ncell hx1 (j := 4) (by decide)
                  have q4 := r5
                  rw [r7] at q4
                  have q2 : w1.cell? ⟨gn, s * 5 + 3, none⟩ = some (.int .i64 (fl : Int)) := by rw [q2, r2]; rfl
                  have q3 : w1.cell? ⟨gn, s * 5 + 4, none⟩ = some x.out := q3
                  have hfz : ∀ j, w1.frozen? ⟨gn, j, none⟩ = false := HM1.out.nodes.row.frozenAt_
                  have hflz : (fl : Int) < (k : Int) := by omega
                  have hok1 : w1.ownsRow w0.heap.size 3 1 x.out x.outs.length (nums .i64 x.outs) := by
                    have h_ := HM1.out.nodes.outs s _ hx1
                    exact h_
                  have HB1 : Hid (Below w0.heap.size w0 w1) := HM1.out.below
                  have HBD : Hid (Below w0.heap.size w0 w1.drew) := HM1.out.below.drew
                  have hbs : w0.heap.size ≤ w1.drew.heap.size := HB1.out.size
                  have e4 : x.outs.length ≤ 64 := by rw [r1.1]; exact r1.2.1
                  have e5 : y.outs.length ≤ 64 := by rw [r4]; exact r1.2.2
                  have HOK : Hid ((Kd.int .i64).R 3 w1.drew w0.heap.size (fun _ => True) x.out x.outs) := Kd.R_of_own (h1 := fun _ => rfl) (show w1.drew.ownsRow w0.heap.size 3 1 x.out x.outs.length (nums .i64 x.outs) from hok1) (fun _ _ => trivial)
                  have HRC : Hid (ReadsRow (fun x cs => cs = [Value.int .i64 x]) 1 w1.drew A y.outs.length y.outs) := (show (Kd.int .i64).C w1.drew A y.outs.length y.outs from Kd.C_of_reads (d := (0 : Int)) (h1 := fun _ => rfl) r8)
                  have KP : Hid (∀ w2, w1.drew.grownBy w2 x.out.ownBlock → w2.frozen? ⟨gn, s * 5 + 4, none⟩ = false ∧ w2.cell? ⟨bx, 0, none⟩ = some (.pointer (some ⟨pa, 0, none⟩)) ∧ w2.cell? ⟨pa, 0, none⟩ = some (.slice (some ⟨gn, 0, none⟩) k cn) ∧ w2.cell? ⟨gn, s * 5 + 3, none⟩ = some (.int .i64 (fl : Int)) ∧ w2.cell? ⟨gn, s * 5 + 4, none⟩ = some x.out ∧ w2.cell? ⟨gn, fl * 5 + 4, none⟩ = some (.slice A y.outs.length ca)) := fun w2 hg => by
                    obtain ⟨m1, m2, m3, m4, m5, m6⟩ := HM1.out.out_ne hx1
                    refine ⟨?_, hg.cell (w := w1.drew) q0 (Ne.symm m1), hg.cell (w := w1.drew) q1 (Ne.symm m2), hg.cell (w := w1.drew) q2 (Ne.symm m5), hg.cell (w := w1.drew) q3 (Ne.symm m5), hg.cell (w := w1.drew) q4 (Ne.symm m5)⟩
                    have hl := World.block_lt_of_cell? _ _ q3
                    have := World.frozen?_of_block (w := w1) (w' := w2) (a := ⟨gn, s * 5 + 4, none⟩) (hg.block gn hl (Ne.symm m5))
                    rw [this]; exact hfz _
                  have HX1 := Lib.hid hx1
                  have HR4 := Lib.hid r4
                  have HR1' := Lib.hid r1.1
                  clear r1 r2 r4 r5 r6 r7 r8 hx1 hok1
                  obtain ⟨xs, hxs⟩ : ∃ xs, x.outs = xs := ⟨_, rfl⟩
                  obtain ⟨ys, hys⟩ : ∃ ys, y.outs = ys := ⟨_, rfl⟩
                  obtain ⟨ml, hml⟩ : ∃ ml, ys.length = ml := ⟨_, rfl⟩
                  obtain ⟨xo, hxo⟩ : ∃ xo, x.out = xo := ⟨_, rfl⟩
                  rw [hys, hml] at HRC q4 KP e5
                  rw [hxo, hxs] at HOK
                  rw [hxo] at q3 KP
                  rw [hxs] at e4
                  have hlen : (xs.length + ml) * 8 ≤ 140737488355328 := by omega
                  have HXS := Lib.hid hxs
                  have HYS := Lib.hid hys
                  have HXO := Lib.hid hxo
                  clear hxs hys hml hxo
                  refine start_ (n := 20) (S := (fun w' => w'.cell? ⟨bx, 0, none⟩ = some (.pointer (some ⟨pa, 0, none⟩)) ∧ w'.cell? ⟨pa, 0, none⟩ = some (.slice (some ⟨gn, 0, none⟩) k cn) ∧ w'.cell? ⟨gn, s * 5 + 3, none⟩ = some (.int .i64 (fl : Int)) ∧ w'.cell? ⟨gn, s * 5 + 4, none⟩ = some xo ∧ w'.cell? ⟨gn, fl * 5 + 4, none⟩ = some (.slice A ml ca))) (ds := [19]) #[false, false, false, false, false, false, false, false, false, false, false, false, false, false, false, false, false, false, false, false] (by kernel_rfl) rfl rfl ?_ (fun hHeld => ?_)
                  · exact ⟨q0, q1, q2, q3, q4⟩
                  refine pure_ (i := 0) (N := some 85) (v := ?_) (a' := ?_) #[true, false, false, false, false, false, false, false, false, false, false, false, false, false, false, false, false, false, false, false] rfl rfl (by kernel_rfl) (fun _ _ _ h => h) (Or.inl ⟨by rfl, ?_⟩) ?_ ?_
                  rotate_left
                  · intro w'
                    go_simp
                    with_reducible rfl
                  rotate_left
                  · simp only [Act.put, List.setIfInBounds_toArray, List.set_cons_zero, List.set_cons_succ, i64_w, i32_w]
                    rfl
                  refine pure_ (i := 1) (N := some 86) (v := ?_) (a' := ?_) #[true, true, false, false, false, false, false, false, false, false, false, false, false, false, false, false, false, false, false, false] rfl rfl (by kernel_rfl) (fun _ _ _ h => h) (Or.inl ⟨by rfl, ?_⟩) ?_ ?_
                  rotate_left
                  · intro w'
                    go_simp
                    with_reducible rfl
                  rotate_left
                  · simp only [Act.put, List.setIfInBounds_toArray, List.set_cons_zero, List.set_cons_succ, i64_w, i32_w]
                    rfl
                  refine pure_ (i := 2) (N := some 87) (v := ?_) (a' := ?_) #[true, true, true, false, false, false, false, false, false, false, false, false, false, false, false, false, false, false, false, false] rfl rfl (by kernel_rfl) (fun _ _ _ h => h) (Or.inl ⟨by rfl, ?_⟩) ?_ ?_
                  rotate_left
                  · intro w'
                    go_simp
                    with_reducible rfl
                  rotate_left
                  · simp only [Act.put, List.setIfInBounds_toArray, List.set_cons_zero, List.set_cons_succ, i64_w, i32_w]
                    rfl
                  refine pure_ (i := 3) (N := some 88) (v := ?_) (a' := ?_) #[true, true, true, true, false, false, false, false, false, false, false, false, false, false, false, false, false, false, false, false] rfl rfl (by kernel_rfl) (fun _ _ _ h => h) (Or.inl ⟨by rfl, ?_⟩) ?_ ?_
                  rotate_left
                  · intro w'
                    go_simp
                    with_reducible rfl
                  rotate_left
                  · simp only [Act.put, List.setIfInBounds_toArray, List.set_cons_zero, List.set_cons_succ, i64_w, i32_w]
                    rfl
                  refine take_ (i := 4) (N := some 89) (v := ?_) (a' := ?_) #[true, true, true, true, true, false, false, false, false, false, false, false, false, false, false, false, false, false, false, false] rfl rfl (by kernel_rfl) (fun _ _ _ h => h) (Or.inl ⟨by rfl, ?_⟩) hHeld ?_ ?_
                  rotate_left
                  · rintro w' ⟨s0, s1, s2, s3, s4⟩
                    go_simp
                    with_reducible rfl
                  rotate_left
                  · simp only [Act.put, List.setIfInBounds_toArray, List.set_cons_zero, List.set_cons_succ, i64_w, i32_w]
                    rfl
                  refine take_ (i := 5) (N := some 90) (v := ?_) (a' := ?_) #[true, true, true, true, true, true, false, false, false, false, false, false, false, false, false, false, false, false, false, false] rfl rfl (by kernel_rfl) (fun _ _ _ h => h) (Or.inl ⟨by rfl, ?_⟩) hHeld ?_ ?_
                  rotate_left
                  · rintro w' ⟨s0, s1, s2, s3, s4⟩
                    go_simp
                    with_reducible rfl
                  rotate_left
                  · simp only [Act.put, List.setIfInBounds_toArray, List.set_cons_zero, List.set_cons_succ, i64_w, i32_w]
                    rfl
                  refine pure_ (i := 6) (N := some 91) (v := ?_) (a' := ?_) #[true, true, true, true, true, true, true, false, false, false, false, false, false, false, false, false, false, false, false, false] rfl rfl (by kernel_rfl) (fun _ _ _ h => h) (Or.inl ⟨by rfl, ?_⟩) ?_ ?_
                  rotate_left
                  · intro w'
                    go_simp
                    with_reducible rfl
                  rotate_left
                  · simp only [Act.put, List.setIfInBounds_toArray, List.set_cons_zero, List.set_cons_succ, i64_w, i32_w]
                    rfl
                  refine pure_ (i := 7) (N := some 92) (v := ?_) (a' := ?_) #[true, true, true, true, true, true, true, true, false, false, false, false, false, false, false, false, false, false, false, false] rfl rfl (by kernel_rfl) (fun _ _ _ h => h) (Or.inl ⟨by rfl, ?_⟩) ?_ ?_
                  rotate_left
                  · intro w'
                    go_simp
                    with_reducible rfl
                  rotate_left
                  · simp only [Act.put, List.setIfInBounds_toArray, List.set_cons_zero, List.set_cons_succ, i64_w, i32_w]
                    rfl
                  refine take_ (i := 8) (N := some 93) (v := ?_) (a' := ?_) #[true, true, true, true, true, true, true, true, true, false, false, false, false, false, false, false, false, false, false, false] rfl rfl (by kernel_rfl) (fun _ _ _ h => h) (Or.inl ⟨by rfl, ?_⟩) hHeld ?_ ?_
                  rotate_left
                  · rintro w' ⟨s0, s1, s2, s3, s4⟩
                    go_simp
                    with_reducible rfl
                  rotate_left
                  · simp only [Act.put, List.setIfInBounds_toArray, List.set_cons_zero, List.set_cons_succ, i64_w, i32_w]
                    rfl
                  refine pure_ (i := 9) (N := some 94) (v := ?_) (a' := ?_) #[true, true, true, true, true, true, true, true, true, true, false, false, false, false, false, false, false, false, false, false] rfl rfl (by kernel_rfl) (fun _ _ _ h => h) (Or.inl ⟨by rfl, ?_⟩) ?_ ?_
                  rotate_left
                  · intro w'
                    go_simp
                    with_reducible rfl
                  rotate_left
                  · simp only [Act.put, List.setIfInBounds_toArray, List.set_cons_zero, List.set_cons_succ, i64_w, i32_w]
                    rfl
                  refine pure_ (i := 10) (N := some 95) (v := ?_) (a' := ?_) #[true, true, true, true, true, true, true, true, true, true, true, false, false, false, false, false, false, false, false, false] rfl rfl (by kernel_rfl) (fun _ _ _ h => h) (Or.inl ⟨by rfl, ?_⟩) ?_ ?_
                  rotate_left
                  · intro w'
                    go_simp
                    with_reducible rfl
                  rotate_left
                  · simp only [Act.put, List.setIfInBounds_toArray, List.set_cons_zero, List.set_cons_succ, i64_w, i32_w]
                    rfl
                  refine pure_ (i := 11) (N := some 96) (v := ?_) (a' := ?_) #[true, true, true, true, true, true, true, true, true, true, true, true, false, false, false, false, false, false, false, false] rfl rfl (by kernel_rfl) (fun _ _ _ h => h) (Or.inl ⟨by rfl, ?_⟩) ?_ ?_
                  rotate_left
                  · intro w'
                    go_simp
                    with_reducible rfl
                  rotate_left
                  · simp only [Act.put, List.setIfInBounds_toArray, List.set_cons_zero, List.set_cons_succ, i64_w, i32_w]
                    rfl
                  refine take_ (i := 12) (N := some 97) (v := ?_) (a' := ?_) #[true, true, true, true, true, true, true, true, true, true, true, true, true, false, false, false, false, false, false, false] rfl rfl (by kernel_rfl) (fun _ _ _ h => h) (Or.inl ⟨by rfl, ?_⟩) hHeld ?_ ?_
                  rotate_left
                  · rintro w' ⟨s0, s1, s2, s3, s4⟩
                    go_simp
                    with_reducible rfl
                  rotate_left
                  · simp only [Act.put, List.setIfInBounds_toArray, List.set_cons_zero, List.set_cons_succ, i64_w, i32_w]
                    rfl
                  refine pure_ (i := 13) (N := some 98) (v := ?_) (a' := ?_) #[true, true, true, true, true, true, true, true, true, true, true, true, true, true, false, false, false, false, false, false] rfl rfl (by kernel_rfl) (fun _ _ _ h => h) (Or.inl ⟨by rfl, ?_⟩) ?_ ?_
                  rotate_left
                  · intro w'
                    go_simp
                    with_reducible rfl
                  rotate_left
                  · simp only [Act.put, List.setIfInBounds_toArray, List.set_cons_zero, List.set_cons_succ, i64_w, i32_w]
                    rfl
                  refine pure_ (i := 14) (N := some 99) (v := ?_) (a' := ?_) #[true, true, true, true, true, true, true, true, true, true, true, true, true, true, true, false, false, false, false, false] rfl rfl (by kernel_rfl) (fun _ _ _ h => h) (Or.inl ⟨by rfl, ?_⟩) ?_ ?_
                  rotate_left
                  · intro w'
                    go_simp
                    with_reducible rfl
                  rotate_left
                  · simp only [Act.put, List.setIfInBounds_toArray, List.set_cons_zero, List.set_cons_succ, i64_w, i32_w]
                    rfl
                  refine take_ (i := 15) (N := some 100) (v := ?_) (a' := ?_) #[true, true, true, true, true, true, true, true, true, true, true, true, true, true, true, true, false, false, false, false] rfl rfl (by kernel_rfl) (fun _ _ _ h => h) (Or.inl ⟨by rfl, ?_⟩) hHeld ?_ ?_
                  rotate_left
                  · rintro w' ⟨s0, s1, s2, s3, s4⟩
                    go_simp
                    with_reducible rfl
                  rotate_left
                  · simp only [Act.put, List.setIfInBounds_toArray, List.set_cons_zero, List.set_cons_succ, i64_w, i32_w]
                    rfl
                  refine one_ (i := 16) (N := some 101) #[true, true, true, true, true, true, true, true, true, true, true, true, true, true, true, true, true, false, false, false] rfl rfl (by kernel_rfl) (by decide) (fun K hK => ?_)
                  refine Kd.R_append_rows_step (Kd.int .i64) (Rr := fun x cs => cs = [Value.int .i64 x]) (w0 := w0) w0.heap.size (by rfl) (.tmp 89) (.tmp 100) 34 3 (.int .i64 0) 8 (by rfl) Try.underlying34 info3 rfl (by decide) (by decide) xo xs ys A ml ca (fun _ => True) (fun _ => False) (by rfl) (by rfl) HOK.out HRC.out (fun _ _ h => h) (fun _ h => h.elim) (fun _ _ => trivial) HBD.out hbs hlen ?_
                  intro v1 w2 hR2 hB2 hg2 hat2
                  obtain ⟨A2, c2, hv1⟩ := Kd.R_slice hR2
                  subst hv1
                  have HK2 := KP.out w2 hg2
                  have hfz2 : w2.frozen? ⟨gn, s * 5 + 4, none⟩ = false := HK2.1
                  refine hK.out _ _ HK2.2 (fun hHeld => ?_)
                  clear hK K
                  refine norm_ (a' := ?_) ?_ ?_
                  rotate_left
                  · show Act.put _ (some 101) _ = _
                    simp only [Act.put, List.setIfInBounds_toArray, List.set_cons_zero, List.set_cons_succ, i64_w, i32_w]
                    rfl
                  refine pure_ (i := 17) (N := some 102) (v := ?_) (a' := ?_) #[true, true, true, true, true, true, true, true, true, true, true, true, true, true, true, true, true, true, false, false] rfl rfl (by kernel_rfl) (fun _ _ _ h => h) (Or.inl ⟨by rfl, ?_⟩) ?_ ?_
                  rotate_left
                  · intro w'
                    go_simp
                    with_reducible rfl
                  rotate_left
                  · simp only [Act.put, List.setIfInBounds_toArray, List.set_cons_zero, List.set_cons_succ, i64_w, i32_w]
                    rfl
                  refine pure_ (i := 18) (N := some 103) (v := ?_) (a' := ?_) #[true, true, true, true, true, true, true, true, true, true, true, true, true, true, true, true, true, true, true, false] rfl rfl (by kernel_rfl) (fun _ _ _ h => h) (Or.inl ⟨by rfl, ?_⟩) ?_ ?_
                  rotate_left
                  · intro w'
                    go_simp
                    with_reducible rfl
                  rotate_left
                  · simp only [Act.put, List.setIfInBounds_toArray, List.set_cons_zero, List.set_cons_succ, i64_w, i32_w]
                    rfl
                  refine last_ (i := 19) (N := none) #[true, true, true, true, true, true, true, true, true, true, true, true, true, true, true, true, true, true, true, true] rfl rfl (by kernel_rfl) (by decide) (fun K hK => ?_)
                  refine skip_ (w1 := ?_) (by rfl) rfl ?_ ?_
                  rotate_left
                  · go_simp
                    rfl
                  refine hK.out _ _ ?_
                  clear hK K
                  refine done_ (by kernel_rfl) ?_
                  have hown2 := Kd.own_of_R hR2
                  have happ := app_done HM1.out hg2 hown2 hat2 HX1.out HXO.out HXS.out HYS.out HR1'.out HR4.out (by rw [fl_word H7.out (by rw [← HKT.out]; exact hsk)])
                  rw [List.length_append] at happ
                  have HApp := Lib.hid happ
                  clear happ
                  go_wp2
                  go_meet
                  exact ⟨_, HApp.out⟩
                case rest =>
                  obtain ⟨v2, hM2⟩ := hcut.out
                  have HM2 := Lib.hid hM2
                  have hx2 : (nds.set s { x with fail := ((flT T s : Nat) : Int), out := v2, outs := ownW ps (T.getD s []) ++ outsW ps (failW T (T.getD s [])) })[s]? = some { x with fail := ((flT T s : Nat) : Int), out := v2, outs := ownW ps (T.getD s []) ++ outsW ps (failW T (T.getD s [])) } := by rw [List.getElem?_set_self (by have := (List.getElem?_eq_some_iff.1 HX.out).1; exact this)]
                  have q3 : wc.cell? ⟨gn, s * 5 + 4, none⟩ = some v2 := hM2.ncell hx2 (j := 4) (by decide)
                  have hsrt := sort_out hM2 hx2 (by have := outs_len hpl (T.getD s []); have := outs_len hpl (failW T (T.getD s [])); show (ownW ps (T.getD s []) ++ outsW ps (failW T (T.getD s []))).length ≤ 128; rw [List.length_append]; omega)
                  have HSR := Lib.hid hsrt
                  clear hM2 hcut HM1 hx2 hsrt
                  go_wp2_with fail
                  refine HSR.out.mono ?_
                  rintro e w' ⟨rfl, hM3⟩
                  rw [List.set_set] at hM3
                  have HM3 : Hid (LinkM w0 w' bx pa g gx go gn cn k cnt lon T ord (nds.set s { x with fail := ((flT T s : Nat) : Int), out := v2, outs := outsW ps (T.getD s []) }) (nxD T (doneB ord t))) := by
                    have e1 := outs_step ps (fun p hp => (HPS.out p hp).1) H7.out.closed (T.getD s []) (word_ne H7.out (by rw [← HKT.out]; exact hsk) hs0)
                    rw [← e1]; exact hM3
                  clear hM3 HSR HM2 q3
                  have hflk : flT T s < k := by rw [HKT.out]; exact fl_lt H7.out (by rw [← HKT.out]; exact hsk)
                  obtain ⟨R, hR1, hR2, hR3, hR4, hR5⟩ := HM3.out.next.row hflk
                  obtain ⟨_, _, _, _, hthere⟩ := (HM3.out.next.row hsk).choose_spec
                  have hx3 : (nds.set s { x with fail := ((flT T s : Nat) : Int), out := v2, outs := outsW ps (T.getD s []) })[s]? = some { x with fail := ((flT T s : Nat) : Int), out := v2, outs := outsW ps (T.getD s []) } := by rw [List.getElem?_set_self (by have := (List.getElem?_eq_some_iff.1 HX.out).1; exact this)]
                  have q0 : w'.cell? ⟨bx, 0, none⟩ = some (.pointer (some ⟨pa, 0, none⟩)) := by rw [cell_of_row _ _ _ _ _ _ HM3.out.box]; rfl
                  have q1 : w'.cell? ⟨pa, 1, none⟩ = some (.slice (some ⟨gx, 0, none⟩) k k) := by rw [cell_of_row _ _ _ _ _ _ HM3.out.auto]; rfl
                  obtain ⟨fl, hfl⟩ : ∃ fl, flT T s = fl := ⟨_, rfl⟩
                  have q2 : w'.cell? ⟨gn, s * 5 + 3, none⟩ = some (.int .i64 (fl : Int)) := by rw [HM3.out.ncell hx3 (by decide), ← hfl]; rfl
                  rw [hfl] at hflk hR2 hR4
                  have hflz : (fl : Int) < (k : Int) := by omega
                  have HR4 := Lib.hid hR4
                  have hone := all_oneCell_toArray hR3
                  have HONE := Lib.hid hone
                  have HTH := Lib.hid hthere
                  clear hone
                  have HRR : Hid (∀ b, b < 256 → R[b]? = some (.int .i32 (nxD T (doneB ord t) fl b))) := hR2
                  have HRL := Lib.hid hR1
                  have HFL := Lib.hid hfl
                  have HX3 := Lib.hid hx3
                  clear hR1 hR2 hR3 hR4 hR5 hthere hx3 hfl
                  go_wp2_with fail
                  go_still_tail 16, (by kernel_rfl)
                  refine wpStill_step (fun K hK => ?_)
                  rw [if_pos (by rfl)]
                  refine still_load_mid 86 (.tmp 122) rfl gx (fl * 256) rfl R _ (show World.rangeAt _ gx (fl * 256) R from HR4.out) Try.underlying86 rfl (by rw [HRL.out]; kernel_rfl) ?_
                  refine hK _ ?_
                  clear hK K
                  simp only [Act.put, List.setIfInBounds_toArray, List.set_cons_zero, List.set_cons_succ]
                  repeat still_step
                  refine wpStill_nil ?_
                  change wpList _ _ _ _ _ w'.drew
                  go_wp2_with (refine wpList_store_mid rfl 86 (.tmp 124) (.tmp 123) rfl gx (s * 256) R.toArray rfl rfl (by rw [List.size_toArray, HRL.out]; exact HTH.out) (by rw [List.size_toArray, HRL.out]; kernel_rfl) HONE.out ?_)
                  rw [show ∀ (a : Act), a.put none undef = a from fun _ => rfl]
                  go_meet
                  have hdf := done_of HO.out hlt HS.out (j := flT T s) (by rw [HFL.out]; exact hflk) (dep_fl H7.out (by rw [← HKT.out]; exact hsk) hs0)
                  exact ⟨_, _, HM3.out.drew.setRow hsk R _ HRL.out HRR.out, match_next H7.out HO.out HKT.out hlt HS.out HLL.out HX.out v2, fun b hb => by
                    by_cases hm : T.getD s [] ++ [(b : Int)] ∈ T
                    · rw [if_pos hm, nx_edge H7.out (by rw [← HKT.out]; exact hsk) _ hm]
                    · rw [if_neg hm, nx_fail H7.out (by rw [← HKT.out]; exact hsk) hs0 _ hm]
                      unfold nxD
                      rw [← HFL.out, if_pos hdf]⟩
          case rest =>
            obtain ⟨nds1, f, hM1, hL1, hf1⟩ := hcut.out
            have HL1 := Lib.hid hL1
            have HF1 := Lib.hid hf1
            have HR0 : Hid (LinkM w0 wc bx pa g gx go gn cn k cnt lon T ord nds1 (nxR T (doneB ord t) s f 0)) := hM1.congr fun s' b' _ _ => by
              unfold nxR
              rw [if_neg (Nat.not_lt_zero b')]
            clear hcut hM1 hL1 hf1 HM HLL cor cbx cp0
            go_wp2
            go_loopg [125] 256 (fun g3 vb wx => ∃ (b : Nat), vb = .int .i64 b ∧ b ≤ 256 ∧ 256 - b ≤ g3 ∧ Hid (LinkM w0 wx bx pa g gx go gn cn k cnt lon T ord nds1 (nxR T (doneB ord t) s f b)))
            case atStart => exact ⟨0, rfl, by omega, Nat.le_refl _, HR0⟩
            case round =>
              clear HR0
              obtain ⟨b, rfl, hb, hg3, HR⟩ := hrel
              by_cases hbl : b < 256
              · have hbz : (b : Int) < 256 := by omega
                have hlook := HR.out.map.look s (b : Int) (by rw [← HKT.out]; exact hsk)
                have hwb : IntKind.u8.wrap (b : Int) = (b : Int) := by rw [IntKind.wrap_u8]; omega
                unfold kEdge at hlook
                have cbx : wr.cell? ⟨bx, 0, none⟩ = some (.pointer (some ⟨pa, 0, none⟩)) := by rw [cell_of_row _ _ _ _ _ _ HR.out.box]; rfl
                have cp1 : wr.cell? ⟨pa, 1, none⟩ = some (.slice (some ⟨gx, 0, none⟩) k k) := by rw [cell_of_row _ _ _ _ _ _ HR.out.auto]; rfl
                by_cases hin : T.getD s [] ++ [(b : Int)] ∈ T
                · rw [if_pos hin, decide_eq_true hin] at hlook
                  have hf := HF1.out b hbl
                  rw [if_pos hin] at hf
                  obtain ⟨q, hq⟩ : ∃ q, T.idxOf (T.getD s [] ++ [(b : Int)]) = q := ⟨_, rfl⟩
                  have hqk : q < k := by rw [← hq, HKT.out]; exact idx_lt hin
                  rw [hq] at hlook hf
                  have hwq : IntKind.i32.wrap (q : Int) = (q : Int) := by rw [IntKind.wrap_i32]; omega
                  have hu := HR.out.next.cell hsk hbl
                  have hfz := HR.out.next.frozen (s * 256 + b)
                  have HF := Lib.hid hf
                  have HIN := Lib.hid hin
                  clear hf hin hq
                  go_wp2
                  go_roundg (256 - (b + 1))
                  case measure => omega
                  case rel => exact ⟨b + 1, by go_num, by omega, Nat.le_refl _, (HR.out.setNext hsk hbl (q : Int)).congr fun s' b' _ _ => row_in HF.out s' b'⟩
                · rw [if_neg hin, decide_eq_false hin] at hlook
                  have hf := HF1.out b hbl
                  rw [if_neg hin] at hf
                  have HF := Lib.hid hf
                  clear hf hin
                  go_wp2
                  go_roundg (256 - (b + 1))
                  case measure => omega
                  case rel => exact ⟨b + 1, by go_num, by omega, Nat.le_refl _, HR.out.congr fun s' b' _ _ => row_out HF.out s' b'⟩
              · obtain rfl : b = 256 := by omega
                go_wp2
                go_roundg (k - (t + 1))
                case measure => omega
                case rel => exact ⟨t + 1, by go_num, by omega, Nat.le_refl _, ⟨nds1, HR.out.congr fun s' b' _ hb' => row_end HS.out s' b' hb', HL1.out⟩⟩
        · obtain rfl : t = k := by omega
          go_wp2
          go_end0
          exact link_end H7.out HO.out (by rw [HN.out]; exact HNN.out) HL.out
end Go.Proofs.Ytdciniefkodeaaa.PAll
