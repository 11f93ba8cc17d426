/- The states in memory while a machine is made: their row, their outs' rows, what their stores turn. -/
import Derived.Test.YtdciniefkodeaaaQPl7HMap
import Derived.Test.YtdciniefkodeaaaQPl7HLinkP
set_option linter.unusedVariables false
set_option linter.unusedSimpArgs false
namespace Go.Proofs.Ytdciniefkodeaaa.PAll
open Go.RowKit Go.Proofs.YtdciniefkodeaaaW.PrintWords Go.Proofs.YtdciniefkodeaaaW.PrintLast Go.Proofs.YtdciniefkodeaaaW.PrintMore
/-- A state: its parent, byte, depth, fail, its outs' slice and what that holds. -/
structure Nd where
  par : Int
  b : Int
  dep : Int
  fail : Int
  out : Value
  outs : List Int
def Nd.cells (x : Nd) : List Value := [.int .i64 x.par, .int .u8 x.b, .int .i64 x.dep, .int .i64 x.fail, x.out]
def flat (nds : List Nd) : List Value := nds.flatMap Nd.cells
theorem flat_cons (x : Nd) (l : List Nd) : flat (x :: l) = .int .i64 x.par :: .int .u8 x.b :: .int .i64 x.dep :: .int .i64 x.fail :: x.out :: flat l := rfl
theorem flat_append (l m : List Nd) : flat (l ++ m) = flat l ++ flat m := List.flatMap_append
theorem flat_get : ∀ (l : List Nd) (i j : Nat) (x : Nd), l[i]? = some x → j < 5 → (flat l)[i * 5 + j]? = x.cells[j]?
  | [], i, j, x, h, _ => by simp at h
  | y :: l, 0, j, x, h, hj => by
    obtain rfl : y = x := by simpa using h
    rw [flat_cons, Nat.zero_mul, Nat.zero_add]
    unfold Nd.cells
    match j, hj with
    | 0, _ => rfl
    | 1, _ => rfl
    | 2, _ => rfl
    | 3, _ => rfl
    | 4, _ => rfl
  | y :: l, i + 1, j, x, h, hj => by
    rw [flat_cons, show (i + 1) * 5 + j = i * 5 + j + 1 + 1 + 1 + 1 + 1 by omega]
    simp only [List.getElem?_cons_succ]
    exact flat_get l i j x (by simpa using h) hj
theorem flat_set4 : ∀ (l : List Nd) (i : Nat) (x : Nd) (v : Value) (os : List Int), l[i]? = some x → (flat l).set (i * 5 + 4) v = flat (l.set i { x with out := v, outs := os })
  | [], i, x, v, os, h => by simp at h
  | y :: l, 0, x, v, os, h => by
    obtain rfl : y = x := by simpa using h
    rfl
  | y :: l, i + 1, x, v, os, h => by
    rw [List.set_cons_succ, flat_cons, flat_cons, ← flat_set4 l i x v os (by simpa using h), show (i + 1) * 5 + 4 = i * 5 + 4 + 1 + 1 + 1 + 1 + 1 by omega]
    rfl
theorem flat_set3 : ∀ (l : List Nd) (i : Nat) (x : Nd) (z : Int), l[i]? = some x → (flat l).set (i * 5 + 3) (.int .i64 z) = flat (l.set i { x with fail := z })
  | [], i, x, z, h => by simp at h
  | y :: l, 0, x, z, h => by
    obtain rfl : y = x := by simpa using h
    rfl
  | y :: l, i + 1, x, z, h => by
    rw [List.set_cons_succ, flat_cons, flat_cons, ← flat_set3 l i x z (by simpa using h), show (i + 1) * 5 + 3 = i * 5 + 3 + 1 + 1 + 1 + 1 + 1 by omega]
    rfl
/-- The outs of this state, in a row of the call's own. -/
def OutI (w : World) (base : Nat) (x : Nd) : Prop := w.ownsRow base 3 1 x.out x.outs.length (nums .i64 x.outs)
/-- The states' row, and each state's outs in a row of its own. -/
structure NodesI (w : World) (base : Nat) (v : Value) (nds : List Nd) : Prop where
  row : w.ownsRow base 76 5 v nds.length (flat nds)
  outs : ∀ (i : Nat) (x : Nd), nds[i]? = some x → OutI w base x
  apart : ∀ (i j : Nat) (x y : Nd) (k : Nat), i ≠ j → nds[i]? = some x → nds[j]? = some y → x.out.ownBlock = some k → y.out.ownBlock ≠ some k
/-- Rows of states and of numbers stay. -/
def KeepN (w w1 : World) : Prop := ∀ (k : Nat) (cells : Array Value) (ty : Nat), w.heap[k]? = some (.cells cells ty (0, 0)) → (ty = 76 ∨ ty = 3) → w1.heap[k]? = w.heap[k]?
theorem KeepN.refl (w : World) : KeepN w w := fun _ _ _ _ _ => rfl
theorem KeepN.below {w w1 : World} (h : Below w.heap.size w w1) : KeepN w w1 := fun k cells ty hk _ => h.block k (Array.getElem?_eq_some_iff.1 hk).1
theorem KeepN.setCell {w : World} {g ty : Nat} {cells : Array Value} (hg : w.heap[g]? = some (.cells cells ty (0, 0))) (h1 : ty ≠ 76) (h2 : ty ≠ 3) (j : Nat) (u : Value) : KeepN w (w.setCell ⟨g, j, none⟩ u) := fun k cs t hk ht => by
  refine Below.heap_setCell w ⟨g, j, none⟩ u k ?_
  rintro rfl
  rw [hg] at hk
  injection hk with hk
  injection hk with _ e
  subst e
  exact ht.elim h1 h2
theorem KeepN.objSet {w : World} {g : Nat} {o : Obj} (hg : w.heap[g]? = some o) (ho : ∀ cells ty, o ≠ .cells cells ty (0, 0)) (o' : Obj) : KeepN w (objSet w g o') := fun k cs t hk ht => by
  have hne : k ≠ g := by
    rintro rfl
    rw [hg] at hk
    injection hk with hk
    exact ho _ _ hk
  show (w.heap.setIfInBounds g o')[k]? = _
  exact Array.getElem?_setIfInBounds_ne (Ne.symm hne)
section
variable {w w1 : World} {base : Nat} {v : Value} {nds : List Nd}
theorem NodesI.keep (h : NodesI w base v nds) (hk : KeepN w w1) : NodesI w1 base v nds := by
  refine ⟨own_move h.row fun k e => ?_, fun i x hx => own_move (h.outs i x hx) fun k e => ?_, h.apart⟩
  · obtain ⟨cells, hc⟩ := own_typed h.row k e
    exact hk k cells 76 hc (.inl rfl)
  · obtain ⟨cells, hc⟩ := own_typed (h.outs i x hx) k e
    exact hk k cells 3 hc (.inr rfl)
theorem NodesI.form (h : NodesI w base v nds) (h0 : 0 < nds.length) : ∃ g c, v = .slice (some ⟨g, 0, none⟩) nds.length c ∧ nds.length ≤ c ∧ base ≤ g ∧ ∃ cur, w.heap[g]? = some (.cells cur 76 (0, 0)) := by
  rcases h.row.2 with ⟨_, h1⟩ | ⟨g, cap, cur, rfl, hb, hg, hn, _⟩
  · omega
  · exact ⟨g, cap, rfl, hn, hb, cur, hg⟩
theorem NodesI.cell {g c : Nat} (h : NodesI w base (.slice (some ⟨g, 0, none⟩) nds.length c) nds) {i : Nat} {x : Nd} (hx : nds[i]? = some x) {j : Nat} (hj : j < 5) : w.cell? ⟨g, i * 5 + j, none⟩ = x.cells[j]? := by
  have hl := (List.getElem?_eq_some_iff.1 hx).1
  rw [h.row.cellAt (i * 5 + j) (by omega)]
  exact flat_get nds i j x hx hj
/-- An outs' slice lies in no states' row. -/
theorem NodesI.out_ne {g c : Nat} (h : NodesI w base (.slice (some ⟨g, 0, none⟩) nds.length c) nds) {i : Nat} {x : Nd} (hx : nds[i]? = some x) : x.out.ownBlock ≠ some g := fun e => by
  obtain ⟨cells, hc⟩ := own_typed (h.outs i x hx) g e
  obtain ⟨cells', hc'⟩ := own_typed h.row g rfl
  rw [hc] at hc'
  injection hc' with hc'
  injection hc' with _ e2
  exact absurd e2 (by decide)
/-- A state's fail is written. -/
theorem NodesI.setFail {g c : Nat} (h : NodesI w base (.slice (some ⟨g, 0, none⟩) nds.length c) nds) {i : Nat} {x : Nd} (hx : nds[i]? = some x) (z : Int) :
    NodesI (w.setCell ⟨g, i * 5 + 3, none⟩ (.int .i64 z)) base (.slice (some ⟨g, 0, none⟩) nds.length c) (nds.set i { x with fail := z }) := by
  have hs := h.row.stored (i * 5 + 3) (.int .i64 z)
  rw [flat_set3 nds i x z hx] at hs
  have hother : ∀ (j : Nat) (y : Nd), nds[j]? = some y → OutI (w.setCell ⟨g, i * 5 + 3, none⟩ (.int .i64 z)) base y := fun j y hy => (h.outs j y hy).kept hs.2 (.inr (h.out_ne hy))
  have hg : ∀ (j : Nat) (y : Nd), (nds.set i { x with fail := z })[j]? = some y → ∃ y', nds[j]? = some y' ∧ y'.out = y.out ∧ y'.outs = y.outs := fun j y hy => by
    rw [List.getElem?_set] at hy
    split at hy
    · rename_i e; subst e
      split at hy
      · injection hy with hy; subst hy; exact ⟨x, hx, rfl, rfl⟩
      · cases hy
    · exact ⟨y, hy, rfl, rfl⟩
  refine ⟨by rw [List.length_set]; exact hs.1, fun j y hy => ?_, fun a b' y y' k hab hy hy' e => ?_⟩
  · obtain ⟨y', h1, h2, h3⟩ := hg j y hy
    have := hother j y' h1
    unfold OutI at this ⊢
    rwa [h2, h3] at this
  · obtain ⟨z1, h1, h2, _⟩ := hg a y hy
    obtain ⟨z2, k1, k2, _⟩ := hg b' y' hy'
    rw [← k2]
    exact h.apart a b' z1 z2 k hab h1 k1 (by rw [h2]; exact e)
/-- A state's outs are written: a row of its own, or a new one. -/
theorem NodesI.setOut {w2 : World} {g c : Nat} (h : NodesI w base (.slice (some ⟨g, 0, none⟩) nds.length c) nds) {i : Nat} {x : Nd} (hx : nds[i]? = some x) {v2 : Value} {os : List Int} (hg : w.grownBy w2 x.out.ownBlock) (ho : w2.ownsRow base 3 1 v2 os.length (nums .i64 os))
    (hat : v2.ownBlock = x.out.ownBlock ∨ ∀ k, v2.ownBlock = some k → w.heap.size ≤ k) :
    NodesI (w2.setCell ⟨g, i * 5 + 4, none⟩ v2) base (.slice (some ⟨g, 0, none⟩) nds.length c) (nds.set i { x with out := v2, outs := os }) := by
  have hne : x.out.ownBlock ≠ some g := h.out_ne hx
  have hrow2 := h.row.kept hg (.inr (show (some g : Option Nat) ≠ x.out.ownBlock from fun e => hne e.symm))
  have hs := hrow2.stored (i * 5 + 4) v2
  rw [flat_set4 nds i x v2 os hx] at hs
  have hlt : ∀ (j : Nat) (y : Nd) (k : Nat), nds[j]? = some y → y.out.ownBlock = some k → k < w.heap.size := fun j y k hy e => ((h.outs j y hy).lt k e).2
  have hv2 : v2.ownBlock ≠ some g := fun e => by
    rcases hat with e1 | e1
    · exact hne (e1.symm.trans e)
    · have := e1 g e
      have := (h.row.lt g rfl).2
      omega
  have hl := (List.getElem?_eq_some_iff.1 hx).1
  have hown2 : (w2.setCell ⟨g, i * 5 + 4, none⟩ v2).ownsRow base 3 1 v2 os.length (nums .i64 os) := ho.kept hs.2 (.inr hv2)
  have hgt : ∀ (j : Nat) (y : Nd), (nds.set i { x with out := v2, outs := os })[j]? = some y → (j = i ∧ y = { x with out := v2, outs := os }) ∨ (j ≠ i ∧ nds[j]? = some y) := fun j y hy => by
    rw [List.getElem?_set] at hy
    split at hy
    · rename_i e; subst e
      injection hy with hy; exact .inl ⟨rfl, hy.symm⟩
    · rename_i e; exact .inr ⟨fun e' => e e'.symm, hy⟩
  refine ⟨by rw [List.length_set]; exact hs.1, fun j y hy => ?_, fun a b' y y' k hab hy hy' e => ?_⟩
  · rcases hgt j y hy with ⟨rfl, rfl⟩ | ⟨hji, hy⟩
    · exact hown2
    · have hn : y.out.ownBlock = none ∨ y.out.ownBlock ≠ x.out.ownBlock := by
        cases hyo : y.out.ownBlock with
        | none => exact .inl rfl
        | some k => exact .inr (fun e => h.apart j i y x k hji hy hx hyo e.symm)
      exact ((h.outs j y hy).kept hg hn).kept hs.2 (.inr (h.out_ne hy))
  · rcases hgt a y hy with ⟨ea, ey⟩ | ⟨hai, hy1⟩
    · rcases hgt b' y' hy' with ⟨eb, _⟩ | ⟨hbi, hy2⟩
      · exact absurd (ea.trans eb.symm) hab
      · intro e'
        rw [ey] at e
        have e : v2.ownBlock = some k := e
        rcases hat with e1 | e1
        · exact h.apart i b' x y' k (fun e3 => hbi e3.symm) hx hy2 (e1.symm.trans e) e'
        · have := e1 k e
          have := hlt b' y' k hy2 e'
          omega
    · rcases hgt b' y' hy' with ⟨eb, ey⟩ | ⟨hbi, hy2⟩
      · intro e'
        rw [ey] at e'
        have e' : v2.ownBlock = some k := e'
        rcases hat with e1 | e1
        · exact h.apart a i y x k hai hy1 hx e (e1.symm.trans e')
        · have := e1 k e'
          have := hlt a y k hy1 e
          omega
      · exact h.apart a b' y y' k hab hy1 hy2 e
/-- A new state behind the others. -/
theorem NodesI.snoc {v2 : Value} {x : Nd} (h : NodesI w base v nds) (hg : w.grownBy w1 v.ownBlock) (ho : w1.ownsRow base 76 5 v2 (nds.length + 1) (flat nds ++ x.cells)) (h1 : x.out = .slice none 0 0) (h2 : x.outs = []) : NodesI w1 base v2 (nds ++ [x]) := by
  have hrow : v.ownBlock = none ∨ ∃ cells k, v.ownBlock = some k ∧ w.heap[k]? = some (.cells cells 76 (0, 0)) := by
    cases hv : v.ownBlock with
    | none => exact .inl rfl
    | some k => obtain ⟨cells, hc⟩ := own_typed h.row k hv; exact .inr ⟨cells, k, rfl, hc⟩
  have hgt : ∀ (j : Nat) (y : Nd), (nds ++ [x])[j]? = some y → nds[j]? = some y ∨ y = x := fun j y hy => by
    rcases Nat.lt_or_ge j nds.length with hj | hj
    · rw [List.getElem?_append_left hj] at hy; exact .inl hy
    · rw [List.getElem?_append_right hj] at hy
      have := List.mem_of_getElem? hy
      exact .inr (List.mem_singleton.1 this)
  refine ⟨?_, fun j y hy => ?_, fun a b' y y' k hab hy hy' e => ?_⟩
  · rw [List.length_append, flat_append]
    exact ho
  · rcases hgt j y hy with hy | rfl
    · refine (h.outs j y hy).kept hg ?_
      cases hyo : y.out.ownBlock with
      | none => exact .inl rfl
      | some k =>
        refine .inr fun e => ?_
        obtain ⟨cells, hc⟩ := own_typed (h.outs j y hy) k hyo
        obtain ⟨cells', hc'⟩ := own_typed h.row k e.symm
        rw [hc] at hc'
        injection hc' with hc'
        injection hc' with _ e2
        exact absurd e2 (by decide)
    · unfold OutI
      rw [h1, h2]
      exact own_nil _ _ _ _
  · rcases hgt a y hy with hy | rfl
    · rcases hgt b' y' hy' with hy' | rfl
      · exact h.apart a b' y y' k hab hy hy' e
      · rw [h1]; simp [Value.ownBlock]
    · rw [h1] at e; simp [Value.ownBlock] at e
end
end Go.Proofs.Ytdciniefkodeaaa.PAll
