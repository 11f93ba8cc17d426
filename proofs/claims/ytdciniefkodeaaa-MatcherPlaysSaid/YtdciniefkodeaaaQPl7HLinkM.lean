/- link's memory: the machine's block, its states, what follows, the order; what each store turns. -/
import Derived.Sort.OwnSortedInts
import Derived.Deep.MidRow
import Derived.Test.YtdciniefkodeaaaQPl7HLay
set_option linter.unusedVariables false
set_option linter.unusedSimpArgs false
namespace Go.Proofs.Ytdciniefkodeaaa.PAll
open Go.RowKit Go.Proofs.YtdciniefkodeaaaW.PrintWords Go.Proofs.YtdciniefkodeaaaW.PrintLast Go.Proofs.YtdciniefkodeaaaW.PrintMore
/-- Block gx holds what follows each state by each byte. -/
def NextI (w : World) (gx n : Nat) (NX : Nat → Nat → Int) : Prop := ∃ cur : Array Value, w.heap[gx]? = some (.cells cur 86 (0, 0)) ∧ cur.size = n * 256 ∧ ∀ s b, s < n → b < 256 → cur[s * 256 + b]? = some (.int .i32 (NX s b))
def OrdI (w : World) (go n : Nat) (ord : Nat → Nat) : Prop := ∃ cur : Array Value, w.heap[go]? = some (.cells cur 3 (0, 0)) ∧ ∀ t, t < n → cur[t]? = some (.int .i64 ((ord t : Nat) : Int))
structure LinkM (w0 w : World) (bx pa g gx go gn cn n : Nat) (cnt lon : Int) (T : List Wd) (ord : Nat → Nat) (nds : List Nd) (NX : Nat → Nat → Int) : Prop where
  len : nds.length = n
  bpa : w0.heap.size ≤ pa
  bgx : w0.heap.size ≤ gx
  box : w.heap[bx]? = some (.cells #[.pointer (some ⟨pa, 0, none⟩)] 24 (0, 0))
  auto : w.heap[pa]? = some (.cells #[.slice (some ⟨gn, 0, none⟩) n cn, .slice (some ⟨gx, 0, none⟩) n n, .int .i64 cnt, .int .i64 lon] 80 (0, 0))
  nodes : NodesI w w0.heap.size (.slice (some ⟨gn, 0, none⟩) n cn) nds
  next : NextI w gx n NX
  order : OrdI w go n ord
  outgo : ∀ (i : Nat) (x : Nd), nds[i]? = some x → x.out.ownBlock ≠ some go
  map : EdgeMap w g T
  below : Below w0.heap.size w0 w
section
variable {w0 w w1 : World} {bx pa g gx go gn cn n : Nat} {cnt lon : Int} {T : List Wd} {ord : Nat → Nat} {nds nds' : List Nd} {NX NX' : Nat → Nat → Int}
theorem NextI.cell (h : NextI w gx n NX) {s b : Nat} (hs : s < n) (hb : b < 256) : w.cell? ⟨gx, s * 256 + b, none⟩ = some (.int .i32 (NX s b)) := by
  obtain ⟨cur, h1, h2, h3⟩ := h
  rw [cell_of_row w gx _ cur 86 (0, 0) h1]
  exact h3 s b hs hb
theorem NextI.of_heap (h : NextI w gx n NX) (hm : w1.heap[gx]? = w.heap[gx]?) : NextI w1 gx n NX := by
  obtain ⟨cur, h1, h2, h3⟩ := h
  exact ⟨cur, hm.trans h1, h2, h3⟩
theorem NextI.frozen (h : NextI w gx n NX) (j : Nat) : w.frozen? ⟨gx, j, none⟩ = false := by
  obtain ⟨cur, h1, h2, h3⟩ := h
  exact frozen_of_row w gx j cur 86 h1
theorem OrdI.cell (h : OrdI w go n ord) {t : Nat} (ht : t < n) : w.cell? ⟨go, t, none⟩ = some (.int .i64 ((ord t : Nat) : Int)) := by
  obtain ⟨cur, h1, h2⟩ := h
  rw [cell_of_row w go _ cur 3 (0, 0) h1]
  exact h2 t ht
/-- A number stored into what follows. -/
theorem NextI.set (h : NextI w gx n NX) {s b : Nat} (hs : s < n) (hb : b < 256) (z : Int) : NextI (w.setCell ⟨gx, s * 256 + b, none⟩ (.int .i32 z)) gx n (fun s' b' => if s' = s ∧ b' = b then z else NX s' b') := by
  obtain ⟨cur, h1, h2, h3⟩ := h
  refine ⟨cur.setIfInBounds (s * 256 + b) (.int .i32 z), heap_setCell_same w gx _ cur 86 _ h1, by simpa using h2, fun s' b' hs' hb' => ?_⟩
  rw [Array.getElem?_setIfInBounds]
  by_cases e : s' = s ∧ b' = b
  · obtain ⟨rfl, rfl⟩ := e
    rw [if_pos rfl, if_pos (by rw [h2]; have := Nat.mul_le_mul_right 256 (show s' + 1 ≤ n from hs'); omega)]
    simp
  · rw [if_neg (by omega), h3 s' b' hs' hb']
    simp only [if_neg e]
theorem row_put (cur R : List Value) (n m s s' b : Nat) (hc : cur.length = n * m) (hs : s < n) (hs' : s' < n) (hb : b < m) (hl : R.length = m) :
    (cur.take (s * m) ++ R ++ cur.drop (s * m + R.length))[s' * m + b]? = if s' = s then R[b]? else cur[s' * m + b]? := by
  have h1 : s * m + m ≤ n * m := by have := Nat.mul_le_mul_right m (show s + 1 ≤ n from hs); rwa [Nat.add_mul, Nat.one_mul] at this
  have htl : (cur.take (s * m)).length = s * m := by rw [List.length_take]; omega
  by_cases e : s' = s
  · subst e
    rw [if_pos rfl, List.append_assoc, List.getElem?_append_right (by rw [htl]; omega), htl, Nat.add_sub_cancel_left, List.getElem?_append_left (by omega)]
  · rw [if_neg e]
    rcases Nat.lt_or_ge s' s with hlt | hge
    · have h2 : s' * m + m ≤ s * m := by have := Nat.mul_le_mul_right m (show s' + 1 ≤ s from hlt); rwa [Nat.add_mul, Nat.one_mul] at this
      rw [List.append_assoc, List.getElem?_append_left (by rw [htl]; omega), List.getElem?_take_of_lt (by omega)]
    · have h2 : s * m + m ≤ s' * m := by have := Nat.mul_le_mul_right m (show s + 1 ≤ s' by omega); rwa [Nat.add_mul, Nat.one_mul] at this
      rw [List.getElem?_append_right (by rw [List.length_append, htl]; omega), List.length_append, htl, List.getElem?_drop]
      congr 1
      omega
/-- A whole row stored. -/
theorem NextI.setRow (h : NextI w gx n NX) {s : Nat} (hs : s < n) (R : List Value) (f : Nat → Int) (hl : R.length = 256) (hR : ∀ b, b < 256 → R[b]? = some (.int .i32 (f b))) : NextI (w.setCells gx (s * 256) R) gx n (fun s' b' => if s' = s then f b' else NX s' b') := by
  obtain ⟨cur, h1, h2, h3⟩ := h
  have hle : s * 256 + 256 ≤ n * 256 := by have := Nat.mul_le_mul_right 256 (show s + 1 ≤ n from hs); omega
  obtain ⟨cur', h4, h5, h6⟩ := setCells_row (g := gx) (e := 86) R (s * 256) w cur h1 (by rw [hl, h2]; exact hle)
  refine ⟨cur', h4, h5.trans h2, fun s' b' hs' hb' => ?_⟩
  rw [← Array.getElem?_toList, h6, row_put cur.toList R n 256 s s' b' (by rw [Array.length_toList]; exact h2) hs hs' hb' hl]
  by_cases e : s' = s
  · rw [if_pos e, hR b' hb']; simp only [if_pos e]
  · rw [if_neg e, Array.getElem?_toList, h3 s' b' hs' hb']; simp only [if_neg e]
theorem list_of (f : Nat → Value) (m : Nat) : ∃ R : List Value, R.length = m ∧ (∀ b, b < m → R[b]? = some (f b)) ∧ ∀ u ∈ R, ∃ b, f b = u :=
  ⟨(List.range m).map f, by simp, fun b hb => by simp [hb], fun u hu => by obtain ⟨b, _, h⟩ := List.mem_map.1 hu; exact ⟨b, h⟩⟩
/-- A row, as a list. -/
theorem NextI.row (h : NextI w gx n NX) {s : Nat} (hs : s < n) : ∃ R : List Value, R.length = 256 ∧ (∀ b, b < 256 → R[b]? = some (.int .i32 (NX s b))) ∧ (∀ u ∈ R, u.oneCell' = true) ∧ w.rangeAt gx (s * 256) R ∧ w.there gx (s * 256) 256 := by
  have hc := fun b hb => NextI.cell h hs (b := b) hb
  obtain ⟨R, h1, h2, h3⟩ := list_of (fun b => .int .i32 (NX s b)) 256
  refine ⟨R, h1, h2, fun u hu => ?_, fun j v hv => ?_, fun j hj => ⟨?_, h.frozen _⟩⟩
  · obtain ⟨b, rfl⟩ := h3 u hu
    rfl
  · have hj := (List.getElem?_eq_some_iff.1 hv).1
    rw [h1] at hj
    rw [hc j hj, ← h2 j hj]
    exact hv
  · rw [hc j hj]; rfl
theorem LinkM.move (h : LinkM w0 w bx pa g gx go gn cn n cnt lon T ord nds NX) (hn : nds'.length = n) (hk : ∀ k o, (k = bx ∨ k = pa ∨ k = go ∨ k = g) → w.heap[k]? = some o → w1.heap[k]? = some o)
    (hN : NodesI w1 w0.heap.size (.slice (some ⟨gn, 0, none⟩) n cn) nds') (hX : NextI w1 gx n NX') (hO : ∀ (i : Nat) (x : Nd), nds'[i]? = some x → x.out.ownBlock ≠ some go) (hB : Below w0.heap.size w0 w1) : LinkM w0 w1 bx pa g gx go gn cn n cnt lon T ord nds' NX' := by
  obtain ⟨o, ho, _⟩ := h.map.isMap
  obtain ⟨cur, hc, h2⟩ := h.order
  exact ⟨hn, h.bpa, h.bgx, hk bx _ (.inl rfl) h.box, hk pa _ (.inr (.inl rfl)) h.auto, hN, hX, ⟨cur, hk go _ (.inr (.inr (.inl rfl))) hc, h2⟩, hO, h.map.of_heap ((hk g _ (.inr (.inr (.inr rfl))) ho).trans ho.symm), hB⟩
theorem LinkM.gn_row (h : LinkM w0 w bx pa g gx go gn cn n cnt lon T ord nds NX) : ∃ cells, w.heap[gn]? = some (.cells cells 76 (0, 0)) := own_typed h.nodes.row gn rfl
/-- Which blocks are two. -/
theorem LinkM.ne (h : LinkM w0 w bx pa g gx go gn cn n cnt lon T ord nds NX) : (gn ≠ bx ∧ gn ≠ pa ∧ gn ≠ go ∧ gn ≠ g ∧ gn ≠ gx) ∧ (gx ≠ bx ∧ gx ≠ pa ∧ gx ≠ go ∧ gx ≠ g) := by
  obtain ⟨cells, hg⟩ := h.gn_row
  obtain ⟨cur, hx, _⟩ := h.next
  obtain ⟨cur3, ho, _⟩ := h.order
  exact ⟨⟨ne_of_types hg h.box (by decide), ne_of_types hg h.auto (by decide), ne_of_types hg ho (by decide), map_ne h.map hg, ne_of_types hg hx (by decide)⟩, ne_of_types hx h.box (by decide), ne_of_types hx h.auto (by decide), ne_of_types hx ho (by decide), map_ne h.map hx⟩
/-- .. and an outs' block is none of them. -/
theorem LinkM.out_ne (h : LinkM w0 w bx pa g gx go gn cn n cnt lon T ord nds NX) {i : Nat} {x : Nd} (hx : nds[i]? = some x) : x.out.ownBlock ≠ some bx ∧ x.out.ownBlock ≠ some pa ∧ x.out.ownBlock ≠ some go ∧ x.out.ownBlock ≠ some g ∧ x.out.ownBlock ≠ some gn ∧ x.out.ownBlock ≠ some gx := by
  have ht : ∀ (k ty : Nat) (cells : Array Value), w.heap[k]? = some (.cells cells ty (0, 0)) → ty ≠ 3 → x.out.ownBlock ≠ some k := fun k ty cells hk hne e => by
    obtain ⟨c, hc⟩ := own_typed (h.nodes.outs i x hx) k e
    exact absurd rfl (ne_of_types hk hc hne)
  obtain ⟨cells, hg⟩ := h.gn_row
  obtain ⟨cur, hxx, _⟩ := h.next
  refine ⟨ht _ _ _ h.box (by decide), ht _ _ _ h.auto (by decide), h.outgo i x hx, fun e => ?_, ht _ _ _ hg (by decide), ht _ _ _ hxx (by decide)⟩
  obtain ⟨c, hc⟩ := own_typed (h.nodes.outs i x hx) g e
  exact absurd rfl (map_ne h.map hc)
theorem LinkM.drew (h : LinkM w0 w bx pa g gx go gn cn n cnt lon T ord nds NX) : LinkM w0 w.drew bx pa g gx go gn cn n cnt lon T ord nds NX :=
  ⟨h.len, h.bpa, h.bgx, h.box, h.auto, h.nodes.keep (KeepN.refl w), h.next, h.order, h.outgo, h.map, h.below.drew⟩
/-- A state's fail is written. -/
theorem LinkM.setFail (h : LinkM w0 w bx pa g gx go gn cn n cnt lon T ord nds NX) {i : Nat} {x : Nd} (hx : nds[i]? = some x) (z : Int) : LinkM w0 (w.setCell ⟨gn, i * 5 + 3, none⟩ (.int .i64 z)) bx pa g gx go gn cn n cnt lon T ord (nds.set i { x with fail := z }) NX := by
  obtain ⟨⟨n1, n2, n3, n4, n5⟩, _⟩ := h.ne
  have hbn := (h.nodes.row.lt gn rfl).1
  have hl := h.len
  subst hl
  refine h.move (by simp) (fun k o hk ho => ?_) (h.nodes.setFail hx z) (h.next.of_heap (Below.heap_setCell _ _ _ _ (Ne.symm n5))) (fun j y hy => ?_) (h.below.setCell (p := ⟨gn, i * 5 + 3, none⟩) hbn _)
  · rw [Below.heap_setCell w ⟨gn, i * 5 + 3, none⟩ _ k (by rcases hk with rfl | rfl | rfl | rfl <;> (first | exact Ne.symm n1 | exact Ne.symm n2 | exact Ne.symm n3 | exact Ne.symm n4))]
    exact ho
  · rw [List.getElem?_set] at hy
    split at hy
    · rename_i e; subst e
      split at hy
      · injection hy with hy; subst hy; exact h.outgo i x hx
      · cases hy
    · exact h.outgo j y hy
/-- A state's outs are written, from an append. -/
theorem LinkM.setOut (h : LinkM w0 w bx pa g gx go gn cn n cnt lon T ord nds NX) {i : Nat} {x : Nd} (hx : nds[i]? = some x) {v2 : Value} {os : List Int} (hg : w.grownBy w1 x.out.ownBlock) (ho : w1.ownsRow w0.heap.size 3 1 v2 os.length (nums .i64 os)) (hat : v2.ownBlock = x.out.ownBlock ∨ ∀ k, v2.ownBlock = some k → w.heap.size ≤ k) :
    LinkM w0 (w1.setCell ⟨gn, i * 5 + 4, none⟩ v2) bx pa g gx go gn cn n cnt lon T ord (nds.set i { x with out := v2, outs := os }) NX := by
  obtain ⟨⟨n1, n2, n3, n4, n5⟩, _⟩ := h.ne
  obtain ⟨m1, m2, m3, m4, m5, m6⟩ := h.out_ne hx
  have hbn := (h.nodes.row.lt gn rfl).1
  have hl := h.len
  subst hl
  have hkk : ∀ (k : Nat) (o : Obj), k ≠ gn → x.out.ownBlock ≠ some k → w.heap[k]? = some o → (w1.setCell ⟨gn, i * 5 + 4, none⟩ v2).heap[k]? = some o := fun k o h1 h2 h3 => by
    rw [Below.heap_setCell w1 ⟨gn, i * 5 + 4, none⟩ _ k h1, hg.block k (Array.getElem?_eq_some_iff.1 h3).1 (Ne.symm h2)]
    exact h3
  refine h.move (by simp) (fun k o hk ho => ?_) (h.nodes.setOut hx hg ho hat) ?_ (fun j y hy => ?_) ((h.below.grown hg h.below.size (fun k e => ((h.nodes.outs i x hx).lt k e).1)).setCell (p := ⟨gn, i * 5 + 4, none⟩) hbn _)
  · rcases hk with rfl | rfl | rfl | rfl
    · exact hkk _ o (Ne.symm n1) m1 ho
    · exact hkk _ o (Ne.symm n2) m2 ho
    · exact hkk _ o (Ne.symm n3) m3 ho
    · exact hkk _ o (Ne.symm n4) m4 ho
  · obtain ⟨cur, hc, h2⟩ := h.next
    exact ⟨cur, hkk gx _ (Ne.symm n5) m6 hc, h2⟩
  · rw [List.getElem?_set] at hy
    split at hy
    · rename_i e; subst e
      split at hy
      · injection hy with hy; subst hy
        intro e
        have e : v2.ownBlock = some go := e
        rcases hat with e1 | e1
        · exact m3 (e1.symm.trans e)
        · obtain ⟨cur, hc, _⟩ := h.order
          have := e1 go e
          have := (Array.getElem?_eq_some_iff.1 hc).1
          omega
      · cases hy
    · exact h.outgo j y hy
theorem flat_same : ∀ (l : List Nd) (i : Nat) (x : Nd) (os : List Int), l[i]? = some x → flat (l.set i { x with outs := os }) = flat l
  | [], i, x, os, h => by simp at h
  | y :: l, 0, x, os, h => by
    obtain rfl : y = x := by simpa using h
    rfl
  | y :: l, i + 1, x, os, h => by
    rw [List.set_cons_succ, flat_cons, flat_cons, flat_same l i x os (by simpa using h)]
/-- A state's outs are turned in place. -/
theorem LinkM.sortOut (h : LinkM w0 w bx pa g gx go gn cn n cnt lon T ord nds NX) {i : Nat} {x : Nd} (hx : nds[i]? = some x) {os : List Int} (hg : w.grownBy w1 x.out.ownBlock) (ho : w1.ownsRow w0.heap.size 3 1 x.out os.length (nums .i64 os)) :
    LinkM w0 w1 bx pa g gx go gn cn n cnt lon T ord (nds.set i { x with outs := os }) NX := by
  obtain ⟨m1, m2, m3, m4, m5, m6⟩ := h.out_ne hx
  have hl := h.len
  subst hl
  have hkk : ∀ (k : Nat) (o : Obj), x.out.ownBlock ≠ some k → w.heap[k]? = some o → w1.heap[k]? = some o := fun k o h2 h3 => by
    rw [hg.block k (Array.getElem?_eq_some_iff.1 h3).1 (Ne.symm h2)]
    exact h3
  have hgt : ∀ (j : Nat) (y : Nd), (nds.set i { x with outs := os })[j]? = some y → (j = i ∧ y = { x with outs := os }) ∨ (j ≠ i ∧ nds[j]? = some y) := fun j y hy => by
    rw [List.getElem?_set] at hy
    split at hy
    · rename_i e; subst e
      split at hy
      · injection hy with hy; exact .inl ⟨rfl, hy.symm⟩
      · cases hy
    · rename_i e; exact .inr ⟨fun e' => e e'.symm, hy⟩
  have hsame : ∀ (j : Nat) (y : Nd), (nds.set i { x with outs := os })[j]? = some y → ∃ y', nds[j]? = some y' ∧ y'.out = y.out := fun j y hy => by
    rcases hgt j y hy with ⟨rfl, rfl⟩ | ⟨_, hy⟩
    · exact ⟨x, hx, rfl⟩
    · exact ⟨y, hy, rfl⟩
  refine h.move (by simp) (fun k o hk ho => ?_) ⟨?_, fun j y hy => ?_, fun a b y y' k hab hy hy' e => ?_⟩ ?_ (fun j y hy => ?_) (h.below.grown hg h.below.size (fun k e => ((h.nodes.outs i x hx).lt k e).1))
  · rcases hk with rfl | rfl | rfl | rfl
    · exact hkk _ o m1 ho
    · exact hkk _ o m2 ho
    · exact hkk _ o m3 ho
    · exact hkk _ o m4 ho
  · rw [List.length_set, flat_same nds i x os hx]
    exact h.nodes.row.kept hg (.inr (show (some gn : Option Nat) ≠ x.out.ownBlock from fun e => m5 e.symm))
  · rcases hgt j y hy with ⟨rfl, rfl⟩ | ⟨hji, hy⟩
    · exact ho
    · refine (h.nodes.outs j y hy).kept hg ?_
      cases hyo : y.out.ownBlock with
      | none => exact .inl rfl
      | some k => exact .inr (fun e => h.nodes.apart j i y x k hji hy hx hyo e.symm)
  · obtain ⟨z1, h1, h2⟩ := hsame a y hy
    obtain ⟨z2, k1, k2⟩ := hsame b y' hy'
    rw [← k2]
    exact h.nodes.apart a b z1 z2 k hab h1 k1 (by rw [h2]; exact e)
  · obtain ⟨cur, hc, h2⟩ := h.next
    exact ⟨cur, hkk gx _ m6 hc, h2⟩
  · obtain ⟨z1, h1, h2⟩ := hsame j y hy
    rw [← h2]; exact h.outgo j z1 h1
theorem LinkM.keepN (h : LinkM w0 w bx pa g gx go gn cn n cnt lon T ord nds NX) : ∀ {u : Value} (j : Nat), KeepN w (w.setCell ⟨gx, j, none⟩ u) := fun {u} j => by
  obtain ⟨cur, hc, _⟩ := h.next
  exact KeepN.setCell hc (by decide) (by decide) j u
/-- A number stored into what follows. -/
theorem LinkM.setNext (h : LinkM w0 w bx pa g gx go gn cn n cnt lon T ord nds NX) {s b : Nat} (hs : s < n) (hb : b < 256) (z : Int) : LinkM w0 (w.setCell ⟨gx, s * 256 + b, none⟩ (.int .i32 z)) bx pa g gx go gn cn n cnt lon T ord nds (fun s' b' => if s' = s ∧ b' = b then z else NX s' b') := by
  obtain ⟨_, x1, x2, x3, x4⟩ := h.ne
  refine h.move h.len (fun k o hk ho => ?_) (h.nodes.keep (h.keepN _)) (h.next.set hs hb z) h.outgo (h.below.setCell (p := ⟨gx, s * 256 + b, none⟩) h.bgx _)
  rw [Below.heap_setCell w ⟨gx, s * 256 + b, none⟩ _ k (by rcases hk with rfl | rfl | rfl | rfl <;> (first | exact Ne.symm x1 | exact Ne.symm x2 | exact Ne.symm x3 | exact Ne.symm x4))]
  exact ho
/-- A whole row stored. -/
theorem LinkM.setRow (h : LinkM w0 w bx pa g gx go gn cn n cnt lon T ord nds NX) {s : Nat} (hs : s < n) (R : List Value) (f : Nat → Int) (hl : R.length = 256) (hR : ∀ b, b < 256 → R[b]? = some (.int .i32 (f b))) :
    LinkM w0 (w.setCells gx (s * 256) R) bx pa g gx go gn cn n cnt lon T ord nds (fun s' b' => if s' = s then f b' else NX s' b') := by
  obtain ⟨_, x1, x2, x3, x4⟩ := h.ne
  obtain ⟨y1, y2, y3, y4⟩ := setCells_same gx R (s * 256) w
  have hf : ∀ k, k ≠ gx → (w.setCells gx (s * 256) R).heap[k]? = w.heap[k]? := fun k hk => setCells_far R (s * 256) k hk
  refine h.move h.len (fun k o hk ho => ?_) (h.nodes.keep fun k cells ty hk ht => hf k ?_) (h.next.setRow hs R f hl hR) h.outgo (h.below.trans ⟨y1, y2, y3, by omega, fun k hk => hf k (by have := h.bgx; omega)⟩)
  · rw [hf k (by rcases hk with rfl | rfl | rfl | rfl <;> (first | exact Ne.symm x1 | exact Ne.symm x2 | exact Ne.symm x3 | exact Ne.symm x4))]
    exact ho
  · rintro rfl
    obtain ⟨cur, hc, _⟩ := h.next
    rcases ht with rfl | rfl
    · exact absurd rfl (ne_of_types hc hk (by decide))
    · exact absurd rfl (ne_of_types hc hk (by decide))
end
end Go.Proofs.Ytdciniefkodeaaa.PAll
