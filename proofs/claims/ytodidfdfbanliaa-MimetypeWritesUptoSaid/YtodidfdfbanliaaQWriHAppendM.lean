/- Appending to a row of bytes that a conversion '[]byte(s)' may have made (its block bears the conversion's mark behind its capacity): the library's laws on frozen heads, turned to this case. -/
import Derived.Lib.FrozenHead2
import Derived.Test.YtodidfdfbanliaaQWriHBytes
set_option linter.unusedVariables false
namespace Go.Proofs.Ytodidfdfbanliaa.PAll
open Go.RowKit Go.Proofs.YtodidfdfbanliaaW.PrintWords
/-- v is a slice of bytes whose row is one of the call's own (from base on) and begins with xs; no cell of it up to its capacity is frozen. -/
def OwnM (w : World) (base : Nat) (v : Value) (xs : List Value) : Prop :=
  ∃ g cap cur fz, v = .slice (some ⟨g, 0, none⟩) xs.length cap ∧ base ≤ g ∧ w.heap[g]? = some (.cells cur 5 fz) ∧ (fz.2 = 0 ∨ cap ≤ fz.1) ∧ xs.length ≤ cap ∧ cap ≤ maxLen ∧ cur.size = cap ∧ cur.toList.take xs.length = xs
theorem run_storeCells_atM (P : Program) (g o : Nat) (t : TypeId) (fz : Nat × Nat) : ∀ (vs : List Value) (i : Nat) (cur : Array Value) (w : World), w.heap[g]? = some (.cells cur t fz) → (fz.2 = 0 ∨ cur.size ≤ fz.1) → o + i + vs.length ≤ cur.size → (∀ v ∈ vs, v.oneCell' = true) →
    (storeCells ⟨g, o, none⟩ vs i).run P w = .ok () (w.setRow g (cur.toList.take (o + i) ++ vs ++ cur.toList.drop (o + i + vs.length)).toArray)
  | [], i, cur, w, hg, _, _, _ => by
    simp only [storeCells, List.append_nil, List.length_nil, Nat.add_zero, List.take_append_drop, Array.toArray_toList]
    rw [setRow_self w g cur t fz hg]
    rfl
  | v :: rest, i, cur, w, hg, hfz, hl, h1 => by
    have hi : o + i < cur.size := by simp at hl; omega
    have hadd : (⟨g, o, none⟩ : Addr).add i = ⟨g, o + i, none⟩ := by unfold Addr.add; split <;> simp_all
    have hcell : w.cell? ⟨g, o + i, none⟩ = some cur[o + i] := by simp [World.cell?, hg, hi]
    have hfro : w.frozen? ⟨g, o + i, none⟩ = false := by
      obtain ⟨lo, hi'⟩ := fz
      simp only [World.frozen?, hg, Bool.and_eq_false_iff, decide_eq_false_iff_not]
      simp only at hfz
      omega
    have hst : (store ((⟨g, o, none⟩ : Addr).add i) v).run P w = .ok () (w.setRow g (cur.setIfInBounds (o + i) v)) := by
      rw [hadd, run_store P w _ v _ (h1 v (by simp)), hcell]
      simp [hfro, setCell_eq_setRow w g (o + i) cur t fz v hg]
    have ih := run_storeCells_atM P g o t fz rest (i + 1) (cur.setIfInBounds (o + i) v) (w.setRow g (cur.setIfInBounds (o + i) v)) (setRow_heap w g cur _ t _ hg) (by simpa using hfz) (by simp at hl ⊢; omega) (fun x hx => h1 x (by simp [hx]))
    simp only [storeCells, Sem.run_bind, hst, Result.andThen_ok, ih, setRow_setRow]
    congr 3
    have e := list_seg_step cur.toList (o + i) v rest (by simp at hl ⊢; omega)
    simpa [Array.toList_setIfInBounds, Nat.add_assoc] using e
theorem strOfNums_map' (l : List UInt8) : strOfNums (l.map fun c => (c.toNat : Int)) = ⟨l.toArray⟩ := by
  unfold strOfNums
  simp [Function.comp_def]
section
variable {P : Program} (w : World)
theorem OwnM.cells {w : World} {base : Nat} {v : Value} {xs : List Value} (h : OwnM w base v xs) {g n cap : Nat} (hv : v = .slice (some ⟨g, 0, none⟩) n cap) : ∀ j u, xs[j]? = some u → w.cell? ((⟨g, 0, none⟩ : Addr).add j) = some u := by
  obtain ⟨g', cap', cur, fz, rfl, _, hg, _, _, _, _, ht⟩ := h
  injection hv with h1 h2 h3
  injection h1 with h1
  injection h1 with h1
  subst h1
  intro j u hu
  have hadd : (⟨g', 0, none⟩ : Addr).add j = ⟨g', j, none⟩ := by unfold Addr.add; split <;> simp_all
  rw [hadd, cell_of_row w g' j cur 5 fz hg]
  rw [← ht, List.getElem?_take] at hu
  split at hu
  · simpa using hu
  · cases hu
/-- An element more. -/
theorem run_append_M (base : Nat) (t ty : TypeId) (i : TypeInfo) (ht : P.underlying t = some (.slice 5)) (hi : P.info? 5 = some i) (hz : i.zero = some (.int .u8 0))
    (hsize : i.size = 1) (hby : i.bytes = 1) (v : Value) (xs : List Value) (hown : OwnM w base v xs)
    (a : Addr) (c : Nat) (x : Value) (hx : w.cell? a = some x) (h1 : x.oneCell' = true)
    (hbytes : xs.length + 1 ≤ 140737488355328) (hbase : base ≤ w.heap.size) :
    ∃ v' w', (Builtin.append_ #[t, t] ty #[v, .slice (some a) 1 c]).run P w = .ok v' w' ∧ OwnM w' base v' (xs ++ [x]) ∧ w.grownBy w' v.ownBlock := by
  have hcells := fun g n cap hv => hown.cells (g := g) (n := n) (cap := cap) hv
  obtain ⟨g, cap, cur, fz, rfl, hbg, hg, hfz, hnc, hcm, hcs, htake⟩ := hown
  have hnews : ∀ j u, [x][j]? = some u → w.cell? (a.add j) = some u := by
    intro j u hj
    match j, hj with
    | 0, hj => simp at hj; subst hj; rw [show a.add 0 = a by unfold Addr.add; split <;> simp_all]; exact hx
  have h1' : ∀ u ∈ [x], u.oneCell' = true := by intro u hu; simp at hu; subst hu; exact h1
  by_cases hroom : xs.length + 1 ≤ cap
  · have hf := run_firstCells_some (P := P) w i.size 1 a 1 c [x] (by rw [hsize]; rfl) hnews
    have hst := run_storeCells_atM P g (xs.length * i.size) 5 fz [x] 0 cur w hg (by omega) (by rw [hsize]; simp; omega) h1'
    have hr : (Builtin.append_ #[t, t] ty #[.slice (some ⟨g, 0, none⟩) xs.length cap, .slice (some a) 1 c]).run P w =
        .ok (.slice (some ⟨g, 0, none⟩) (xs.length + 1) cap) (w.setRow g (cur.toList.take (xs.length * i.size) ++ [x] ++ cur.toList.drop (xs.length * i.size + [x].length)).toArray) := by
      simp only [Nat.add_zero] at hst
      simp [Builtin.append_, run_underlying ht, sizeOf, typeInfo, hi, Builtin.lenOf, hroom, hf, Addr.add_lit] at hst ⊢
      simp [hst]
    rw [hsize, Nat.mul_one] at hr
    refine ⟨_, _, hr, ⟨g, cap, _, fz, by simp, hbg, setRow_heap w g cur _ 5 _ hg, hfz, by simpa using hroom, hcm, ?_, ?_⟩, ⟨rfl, rfl, rfl, by simp, fun k _ hk => setRow_other w g k _ (fun e => hk (by simp [Value.ownBlock, e]))⟩⟩
    · simp; omega
    · rw [htake]; exact List.take_left
  · have hr := run_append_grow (P := P) w t ty 5 i (.int .u8 0) ht hi hz ⟨g, 0, none⟩ xs.length cap xs (by rw [hsize]; simp) (hcells g _ _ rfl) a 1 c [x] (by rw [hsize]; rfl) hnews (by omega) (by omega) (by rw [hby]; exact growslice_fits (by omega) (by omega))
    have hge := grownCap_ge w (xs.length + 1) cap 5
    have hcm2 : grownCap w (xs.length + 1) cap 5 ≤ maxLen := grownCap_le_maxLen w (xs.length + 1) cap 5 (by unfold maxLen; omega)
    refine ⟨_, _, hr, ⟨w.heap.size, _, _, (0, 0), by simp, hbase, heap_alloc_new w.drew _, .inl rfl, by simpa using hge, hcm2, ?_, ?_⟩, ⟨rfl, rfl, rfl, by simp, fun k hk _ => Lib.alloc_old w.drew _ k hk⟩⟩
    · have hz1 : (Value.int IntKind.u8 0).cells.size = 1 := rfl
      simp only [Array.size_append, List.size_toArray, size_zeroCells, hz1]
      simp; omega
    · simp only [Array.toList_append, List.append_assoc]
      rw [← List.append_assoc]
      exact List.take_left
/-- A string more. -/
theorem run_appendstr_M (base : Nat) (t u ty : TypeId) (i : TypeInfo) (ht : P.underlying t = some (.slice 5)) (hu : P.underlying u = some .string) (hi : P.info? 5 = some i) (hz : i.zero = some (.int .u8 0))
    (hsize : i.size = 1) (hby : i.bytes = 1) (v : Value) (xs : List Value) (hown : OwnM w base v xs) (s : ByteArray)
    (hbytes : xs.length + s.size ≤ 140737488355328) (hbase : base ≤ w.heap.size) :
    ∃ v' w', (Builtin.append_ #[t, u] ty #[v, .string s]).run P w = .ok v' w' ∧ OwnM w' base v' (xs ++ Lib.strCells s) ∧ w.grownBy w' v.ownBlock := by
  have hcells := fun g n cap hv => hown.cells (g := g) (n := n) (cap := cap) hv
  obtain ⟨g, cap, cur, fz, rfl, hbg, hg, hfz, hnc, hcm, hcs, htake⟩ := hown
  by_cases hroom : xs.length + s.size ≤ cap
  · have hf := Lib.run_firstCells_string (P := P) w 1 s
    have hst := run_storeCells_atM P g xs.length 5 fz (Lib.strCells s) 0 cur w hg (by omega) (by simpa [Lib.strCells_length] using by omega) (Lib.strCells_oneCell s)
    have hr : (Builtin.append_ #[t, u] ty #[.slice (some ⟨g, 0, none⟩) xs.length cap, .string s]).run P w =
        .ok (.slice (some ⟨g, 0, none⟩) (xs.length + s.size) cap) (w.setRow g (cur.toList.take xs.length ++ Lib.strCells s ++ cur.toList.drop (xs.length + s.size)).toArray) := by
      simp only [Nat.add_zero, Lib.strCells_length] at hst
      simp [Builtin.append_, run_underlying ht, run_underlying hu, sizeOf, typeInfo, hi, hsize, Builtin.lenOf, hroom, hf, Addr.add_lit, hst]
    refine ⟨_, _, hr, ⟨g, cap, _, fz, by simp [Lib.strCells_length], hbg, setRow_heap w g cur _ 5 _ hg, hfz, by simpa [Lib.strCells_length] using hroom, hcm, ?_, ?_⟩, ⟨rfl, rfl, rfl, by simp, fun k _ hk => setRow_other w g k _ (fun e => hk (by simp [Value.ownBlock, e]))⟩⟩
    · simp [Lib.strCells_length]; omega
    · rw [htake]; exact List.take_left
  · have hr := Lib.run_append_grow_string (P := P) w t u ty 5 i (.int .u8 0) ht hu hi hz ⟨g, 0, none⟩ xs.length cap xs (by rw [hsize]; simp) (hcells g _ _ rfl) s (by omega) (by omega) (by rw [hby]; exact growslice_fits (by omega) (by omega))
    have hge := grownCap_ge w (xs.length + s.size) cap 5
    have hcm2 : grownCap w (xs.length + s.size) cap 5 ≤ maxLen := grownCap_le_maxLen w (xs.length + s.size) cap 5 (by unfold maxLen; omega)
    refine ⟨_, _, hr, ⟨w.heap.size, _, _, (0, 0), by simp [Lib.strCells_length], hbase, heap_alloc_new w.drew _, .inl rfl, by simpa [Lib.strCells_length] using hge, hcm2, ?_, ?_⟩, ⟨rfl, rfl, rfl, by simp, fun k hk _ => Lib.alloc_old w.drew _ k hk⟩⟩
    · have hz1 : (Value.int IntKind.u8 0).cells.size = 1 := rfl
      simp only [Array.size_append, List.size_toArray, size_zeroCells, hz1, Lib.strCells_length]
      simp; omega
    · simp only [Array.toList_append, List.append_assoc]
      rw [← List.append_assoc]
      exact List.take_left
theorem wpList_append_M {ops : Array Oper} {rest : List Oper} {o : Oper} {act : Act} {Q : Exit → Act → World → Prop} (hgd : o.guard = none) (s x : Operand) (t : TypeId)
    (ho : o.op = .call { callee := .builtin .append, args := #[s, x], argTypes := #[t, t] })
    (base : Nat) (i : TypeInfo) (ht : P.underlying t = some (.slice 5)) (hi : P.info? 5 = some i) (hz : i.zero = some (.int .u8 0)) (hsize : i.size = 1) (hby : i.bytes = 1)
    (v : Value) (xs : List Value) (hs : act.eval s = v) (hown : OwnM w base v xs) (ad : Addr) (c : Nat) (y : Value) (hx : act.eval x = .slice (some ad) 1 c) (hy : w.cell? ad = some y) (h1 : y.oneCell' = true)
    (hbytes : xs.length + 1 ≤ 140737488355328) (hbase : base ≤ w.heap.size)
    (h : ∀ v' w', OwnM w' base v' (xs ++ [y]) → w.grownBy w' v.ownBlock → wpList P ops Q rest (act.put o.dst v') w') : wpList P ops Q (o :: rest) act w := by
  refine wpList_plain hgd fun K hK => ?_
  obtain ⟨v', w', hr, h2, h3⟩ := run_append_M (P := P) w base t o.type i ht hi hz hsize hby v xs hown ad c y hy h1 hbytes hbase
  unfold Oper.wp execOp
  simp only [ho, resolve, invoke, builtin, Sem.run_bind, Sem.run_pure, Result.andThen_ok, List.map_toArray, List.map_cons, List.map_nil, hs, hx, hr]
  exact hK _ _ (h v' w' h2 h3)
theorem wpList_appendstr_M {ops : Array Oper} {rest : List Oper} {o : Oper} {act : Act} {Q : Exit → Act → World → Prop} (hgd : o.guard = none) (s x : Operand) (t u : TypeId)
    (ho : o.op = .call { callee := .builtin .append, args := #[s, x], argTypes := #[t, u] })
    (base : Nat) (i : TypeInfo) (ht : P.underlying t = some (.slice 5)) (hu : P.underlying u = some .string) (hi : P.info? 5 = some i) (hz : i.zero = some (.int .u8 0)) (hsize : i.size = 1) (hby : i.bytes = 1)
    (v : Value) (xs : List Value) (hs : act.eval s = v) (hown : OwnM w base v xs) (y : ByteArray) (hx : act.eval x = .string y)
    (hbytes : xs.length + y.size ≤ 140737488355328) (hbase : base ≤ w.heap.size)
    (h : ∀ v' w', OwnM w' base v' (xs ++ Lib.strCells y) → w.grownBy w' v.ownBlock → wpList P ops Q rest (act.put o.dst v') w') : wpList P ops Q (o :: rest) act w := by
  refine wpList_plain hgd fun K hK => ?_
  obtain ⟨v', w', hr, h2, h3⟩ := run_appendstr_M (P := P) w base t u o.type i ht hu hi hz hsize hby v xs hown y hbytes hbase
  unfold Oper.wp execOp
  simp only [ho, resolve, invoke, builtin, Sem.run_bind, Sem.run_pure, Result.andThen_ok, List.map_toArray, List.map_cons, List.map_nil, hs, hx, hr]
  exact hK _ _ (h v' w' h2 h3)
end
theorem OwnM.of_bytes {w : World} {B cap : Nat} {l : List UInt8} (h : BytesAt w B cap l) (hm : cap ≤ maxLen) : OwnM w B (.slice (some ⟨B, 0, none⟩) l.length cap) (Lib.byteCells l) := by
  obtain ⟨cur, hb, hs, hc, hl⟩ := h
  refine ⟨B, cap, cur, (cap, cap + 1), by rw [Lib.byteCells_length], Nat.le_refl _, hb, .inr (Nat.le_refl _), by rw [Lib.byteCells_length]; exact hc, hm, hs, ?_⟩
  apply List.ext_getElem?
  intro j
  rw [List.getElem?_take, Lib.byteCells_length]
  by_cases hj : j < l.length
  · rw [if_pos hj]
    have := hl j hj
    simp only [Array.getElem?_toList, this]
    simp [Lib.byteCells, hj]
  · rw [if_neg hj, List.getElem?_eq_none (by rw [Lib.byteCells_length]; omega)]
theorem OwnM.of_below {w w1 : World} {B : Nat} {v : Value} {xs : List Value} (h : OwnM w B v xs) (hb : Below w.heap.size w w1) : OwnM w1 B v xs := by
  obtain ⟨g, cap, cur, fz, hv, hbg, hg, r⟩ := h
  have hlt : g < w.heap.size := (Array.getElem?_eq_some_iff.1 hg).1
  exact ⟨g, cap, cur, fz, hv, hbg, (hb.block g hlt).trans hg, r⟩
theorem OwnM.base_le {w : World} {B : Nat} {v : Value} {xs : List Value} (h : OwnM w B v xs) : ∀ k, v.ownBlock = some k → B ≤ k := by
  obtain ⟨g, cap, cur, fz, rfl, hbg, _⟩ := h
  intro k hk; simp [Value.ownBlock] at hk; omega
theorem OwnM.form {w : World} {B : Nat} {v : Value} {xs : List Value} (h : OwnM w B v xs) : ∃ g cap, v = .slice (some ⟨g, 0, none⟩) xs.length cap := by
  obtain ⟨g, cap, cur, fz, rfl, _⟩ := h
  exact ⟨g, cap, rfl⟩
theorem OwnM.string {w : World} {B : Nat} {v : Value} {l : List UInt8} (h : OwnM w B v (Lib.byteCells l)) (hl : l.length ≤ 9223372036854775807) : (convert 22 9 v).run Try.prog w = .ok (.string ⟨l.toArray⟩) w := by
  obtain ⟨g, cap, hv⟩ := h.form
  have hc := fun j u => h.cells hv j u
  subst hv
  have hr : Kd.C (Kd.int .u8) w (some ⟨g, 0, none⟩) l.length (l.map fun c => (c.toNat : Int)) := by
    refine Kd.C_of_reads (d := (0 : Int)) (h1 := fun _ => rfl) ⟨by simp, hl, fun hn => ⟨_, rfl, fun j hj => ?_⟩⟩
    exact hc j _ (by simp [Lib.byteCells, List.getD_eq_getElem?_getD, hj])
  have := Kd.C_string (P := Try.prog) (A := some ⟨g, 0, none⟩) (c := cap) Try.underlying22 Try.underlying5 Try.underlying9 hr
  rw [strOfNums_map'] at this
  rw [Lib.byteCells_length]
  exact this
end Go.Proofs.Ytodidfdfbanliaa.PAll
