/- The reference's Text answers the written type (textB), if all its words are small tokens, and turns nothing that was there. -/
import Derived.Lib.Hide
import Derived.Outline
import Derived.Test.YtodidfdfbanliaaQWriHAppendM
import Derived.Test.YtodidfdfbanliaaQWriHSem1
import Derived.Test.YtodidfdfbanliaaQWriFSmall
set_option linter.unusedVariables false
namespace Go.Proofs.Ytodidfdfbanliaa.PAll
open Go.RowKit Go.Proofs.YtodidfdfbanliaaW.PrintWords Go.Proofs.YtodidfdfbanliaaW.PrintLast Go.Proofs.YtodidfdfbanliaaW.PrintMore
def smallL (l : List UInt8) : Bool := tokL l && (lowL l == l)
def paramW (f : S42) : List UInt8 := [59, 32] ++ f.f0.data.toList ++ [61] ++ writtenL f.f1.data.toList
def textTo (m s : ByteArray) (ps : List S42) (i : Nat) : List UInt8 := m.data.toList ++ [47] ++ s.data.toList ++ (ps.take i).flatMap paramW
def textOk (m s : ByteArray) (ps : List S42) : Bool := smallL m.data.toList && smallL s.data.toList && ps.all fun f => smallL f.f0.data.toList
def textR (m s : ByteArray) (ps : List S42) : ByteArray × Bool := if textOk m s ps then (⟨(textTo m s ps ps.length).toArray⟩, true) else (⟨#[]⟩, false)
/-- How long a written type may get. -/
def textMax (m s : ByteArray) (ps : List S42) : Nat := m.size + s.size + 1 + (ps.map fun f => f.f0.size + 2 * f.f1.size + 5).sum
theorem winkleref13_small.ev (a : ByteArray) (ha : a.size < 140737488355328) : Ev (fun k => winkleref13_small.f k a) (smallL a.data.toList) := by
  unfold winkleref13_small.f
  refine Ev.bind (f := fun k t => if t = true then ((winkleref13_Lower.f k a).bind fun t375 => (some (t375.toList == a.toList))) else some false) (winkleref13_Token.ev a (by omega)) ?_
  unfold smallL
  cases tokL a.data.toList with
  | false => exact Ev.now false
  | true =>
    simp only [if_true, Bool.true_and]
    refine Ev.bind (f := fun k t375 => some (t375.toList == a.toList)) (winkleref13_Lower.ev a ha) ?_
    have : ((lowB a).toList == a.toList) = (lowL a.data.toList == a.data.toList) := by
      rw [ByteArray.toList_eq, ByteArray.toList_eq]; rfl
    rw [this]; exact Ev.now _
theorem small_calls (a : ByteArray) (w : World) (ha : a.size < 140737488355328) (r : Bool) (hr : smallL a.data.toList = r) :
    Calls Try.prog 84 #[.string a] w fun e w' => e = .returned (.bool r) ∧ Below w.heap.size w w' := by
  subst hr
  obtain ⟨k, hk⟩ := (winkleref13_small.ev a ha).rounds
  exact winkleref13_small.calls k a _ w hk
theorem paramW_le (f : S42) : (paramW f).length ≤ f.f0.size + 2 * f.f1.size + 5 := by
  have h1 : (writtenL f.f1.data.toList).length ≤ 2 * f.f1.size + 2 := by
    unfold writtenL; split
    · simp; omega
    · have := escL_le f.f1.data.toList; simp at this ⊢; omega
  simp [paramW]; omega
theorem textTo_le (m s : ByteArray) (ps : List S42) (i : Nat) : (textTo m s ps i).length ≤ textMax m s ps := by
  have h : ∀ l : List S42, ∀ i, ((l.take i).flatMap paramW).length ≤ (l.map fun f => f.f0.size + 2 * f.f1.size + 5).sum := by
    intro l
    induction l with
    | nil => simp
    | cons f l ih =>
      intro i
      cases i with
      | zero => simp
      | succ i => have := ih i; have := paramW_le f; simp only [List.take_succ_cons, List.flatMap_cons, List.length_append, List.map_cons, List.sum_cons]; omega
  have := h ps i
  simp [textTo, textMax] at this ⊢; omega
theorem le_textMax (m s : ByteArray) (ps : List S42) (i : Nat) (h : i < ps.length) : ps[i].f0.size + 2 * ps[i].f1.size + 5 ≤ textMax m s ps := by
  have h2 : ∀ l : List Nat, ∀ x ∈ l, x ≤ l.sum := by
    intro l; induction l with
    | nil => simp
    | cons y l ih => intro x hx; simp at hx; rcases hx with rfl | hx; · simp
                     · have := ih x hx; simp; omega
  have := h2 (ps.map fun f => f.f0.size + 2 * f.f1.size + 5) _ (List.mem_map.2 ⟨ps[i], List.getElem_mem h, rfl⟩)
  unfold textMax; omega
theorem textTo_succ (m s : ByteArray) (ps : List S42) (i : Nat) (h : i < ps.length) : textTo m s ps (i + 1) = textTo m s ps i ++ paramW ps[i] := by
  simp only [textTo, List.take_succ_eq_append_getElem h, List.flatMap_append, List.flatMap_cons, List.flatMap_nil, List.append_nil, List.append_assoc]
theorem OwnM.ne {w : World} {B : Nat} {v : Value} {xs : List Value} (h : OwnM w B v xs) {b : Nat} {cs : Array Value} {T : TypeId} {fr : Nat × Nat} (hb : w.heap[b]? = some (.cells cs T fr)) (hT : T ≠ 5) : v.ownBlock ≠ some b := by
  obtain ⟨g, cap, cur, fz, rfl, _, hg, _⟩ := h
  intro e
  have : g = b := by simpa [Value.ownBlock] using e
  subst this
  rw [hb] at hg
  injection hg with hg
  injection hg with _ ht
  exact hT ht
def winkleref13_Text.f (a0_0 : ByteArray) (a0_1 : ByteArray) (l0_2 : List (S42)) : Option (ByteArray × Bool) := if textMax a0_0 a0_1 l0_2 < 140737488355328 then some (textR a0_0 a0_1 l0_2) else none
set_option maxHeartbeats 2000000 in
set_option maxRecDepth 100000 in
theorem text_bad (m s : ByteArray) (A : Option Addr) (c : Nat) (l : List S42) (w : World) (hl : textMax m s l < 140737488355328) (hm : (smallL m.data.toList && smallL s.data.toList) = false) :
    Calls Try.prog 47 #[.agg #[.string m, .string s, .slice A l.length c]] w fun e w' => e = .returned (.tuple #[.string ⟨#[]⟩, .bool false]) ∧ Below w.heap.size w w' := by
  have h1 : m.size < 140737488355328 ∧ s.size < 140737488355328 := by unfold textMax at hl; omega
  cases hsm : smallL m.data.toList with
  | false =>
    have H1 := Lib.hid (fun w => small_calls m w h1.1 false hsm)
    clear hsm hm hl
    go_enter Try.func47, Try.ntmps47
    go_wp2_with (fail)
    refine (H1.out _).mono ?_
    rintro e w1 ⟨rfl, b1⟩
    go_wp2
    go_ret2
    exact ⟨rfl, ((Below.refl _ w).alloc (Nat.le_refl _) _).trans (b1.mono (by simp))⟩
  | true =>
    have hss : smallL s.data.toList = false := by rw [hsm] at hm; simpa using hm
    have H1 := Lib.hid (fun w => small_calls m w h1.1 true hsm)
    have H2 := Lib.hid (fun w => small_calls s w h1.2 false hss)
    clear hsm hss hm hl
    go_enter Try.func47, Try.ntmps47
    go_wp2_with (fail)
    refine (H1.out _).mono ?_
    rintro e w1 ⟨rfl, b1⟩
    have hc1 : w1.cell? ⟨w.heap.size, 1, none⟩ = some (.string s) := by rw [b1.cell (by simp)]; simp
    go_wp2_with (fail)
    refine (H2.out _).mono ?_
    rintro e w2 ⟨rfl, b2⟩
    go_wp2
    go_ret2
    exact ⟨rfl, (((Below.refl _ w).alloc (Nat.le_refl _) _).trans (b1.mono (by simp))).trans (b2.mono (by have := b1.size; simp at this; omega))⟩
theorem size_three (m s : ByteArray) : (m ++ (⟨#[47]⟩ : ByteArray) ++ s).size = m.size + 1 + s.size := by
  rw [ByteArray.size_append, ByteArray.size_append]; rfl
theorem rd_T42_at' (l : List S42) (k : Nat) (h : k < l.length) : rd_T42 l (k : Int) = l[k] := by
  simp [rd_T42, List.getD_eq_getElem?_getD, List.getElem?_eq_getElem h]
/-- What stands at the head of the loop over the parameters. -/
def TextInv (m s : ByteArray) (A : Option Addr) (c : Nat) (l : List S42) (w : World) (i : Nat) (v : Value) (wr : World) : Prop :=
  i ≤ l.length ∧ OwnM wr (w.heap.size + 1) v (Lib.byteCells (textTo m s l i)) ∧ wr.heap[w.heap.size]? = some (.cells #[.string m, .string s, .slice A l.length c] 57 (0, 0)) ∧ Below w.heap.size w wr ∧ ((l.take i).all fun f => smallL f.f0.data.toList) = true ∧ w.heap.size + 1 ≤ wr.heap.size
theorem textTo_zero (m s : ByteArray) (l : List S42) : (m ++ (⟨#[47]⟩ : ByteArray) ++ s).data.toList = textTo m s l 0 := by
  simp [textTo]
theorem OwnM.lower {w : World} {B B' : Nat} {v : Value} {xs : List Value} (h : OwnM w B v xs) (hB : B' ≤ B) : OwnM w B' v xs := by
  obtain ⟨g, cap, cur, fz, hv, hbg, r⟩ := h
  exact ⟨g, cap, cur, fz, hv, by omega, r⟩
theorem textInv_start (m s : ByteArray) (A : Option Addr) (c : Nat) (l : List S42) (w w2 : World) (hb2 : w2.heap[w.heap.size]? = some (.cells #[.string m, .string s, .slice A l.length c] 57 (0, 0))) (hx : Below w.heap.size w w2) (hz : w.heap.size + 1 ≤ w2.heap.size) (hbnd : m.size + 1 + s.size ≤ 140737488355328) :
    TextInv m s A c l w 0 (.slice (some ⟨w2.heap.size, 0, none⟩) (m.size + 1 + s.size) (grownCap w2 (m.size + 1 + s.size) 0 5)) (Lib.bytesWorld w2 5 (m ++ (⟨#[47]⟩ : ByteArray) ++ s)) := by
  have hlen := size_three m s
  have hM := OwnM.of_bytes (BytesAt.made w2 (m ++ (⟨#[47]⟩ : ByteArray) ++ s) (grownCap_ge w2 _ 0 5)) (grownCap_le_maxLen w2 _ 0 5 (by rw [hlen]; unfold maxLen; omega))
  rw [toList_size, hlen, textTo_zero m s l] at hM
  have hB := below_bytes w2 (m ++ (⟨#[47]⟩ : ByteArray) ++ s)
  exact ⟨by omega, hM.lower hz, by rw [hB.block _ (by omega)]; exact hb2, hx.trans (hB.mono (by omega)), rfl, Nat.le_trans hz hB.size⟩
/-- What stands within a round: the row holds xs, the box of the type and the variable of the parameter stand. -/
def ParInv (m s : ByteArray) (A : Option Addr) (c n : Nat) (w : World) (Bp : Nat) (a b : ByteArray) (xs : List UInt8) (v : Value) (wx : World) : Prop :=
  OwnM wx (w.heap.size + 1) v (Lib.byteCells xs) ∧ wx.heap[w.heap.size]? = some (.cells #[.string m, .string s, .slice A n c] 57 (0, 0)) ∧ Below w.heap.size w wx ∧ wx.heap[Bp]? = some (.cells #[.string a, .string b] 42 (0, 0)) ∧ w.heap.size + 1 ≤ wx.heap.size
section
variable {m s : ByteArray} {A : Option Addr} {c n : Nat} {w : World} {Bp : Nat} {a b : ByteArray} {xs ys : List UInt8} {v v' : Value} {wx wy : World}
theorem ParInv.below (h : ParInv m s A c n w Bp a b xs v wx) (hb : Below wx.heap.size wx wy) : ParInv m s A c n w Bp a b xs v wy := by
  obtain ⟨h1, h2, h3, h4, h5⟩ := h
  have l4 : Bp < wx.heap.size := (Array.getElem?_eq_some_iff.1 h4).1
  exact ⟨h1.of_below hb, (hb.block _ (by omega)).trans h2, h3.trans (hb.mono (by omega)), (hb.block _ l4).trans h4, Nat.le_trans h5 hb.size⟩
theorem ParInv.grown (h : ParInv m s A c n w Bp a b xs v wx) (ho : OwnM wy (w.heap.size + 1) v' (Lib.byteCells ys)) (hg : wx.grownBy wy v.ownBlock) : ParInv m s A c n w Bp a b ys v' wy := by
  obtain ⟨h1, h2, h3, h4, h5⟩ := h
  have l4 : Bp < wx.heap.size := (Array.getElem?_eq_some_iff.1 h4).1
  exact ⟨ho, (hg.block _ (by omega) (fun e => h1.ne h2 (by decide) e.symm)).trans h2, h3.grown hg (by omega) (fun k hk => by have := h1.base_le k hk; omega), (hg.block _ l4 (fun e => h1.ne h4 (by decide) e.symm)).trans h4, Nat.le_trans h5 hg.size⟩
theorem ParInv.cell0 (h : ParInv m s A c n w Bp a b xs v wx) : wx.cell? ⟨Bp, 0, none⟩ = some (.string a) := by
  obtain ⟨h1, h2, h3, h4, h5⟩ := h; simp [World.cell?, h4]
theorem ParInv.cell1 (h : ParInv m s A c n w Bp a b xs v wx) : wx.cell? ⟨Bp, 1, none⟩ = some (.string b) := by
  obtain ⟨h1, h2, h3, h4, h5⟩ := h; simp [World.cell?, h4]
theorem ParInv.own (h : ParInv m s A c n w Bp a b xs v wx) : OwnM wx (w.heap.size + 1) v (Lib.byteCells xs) := h.1
theorem ParInv.form (h : ParInv m s A c n w Bp a b xs v wx) : ∃ g cap, v = .slice (some ⟨g, 0, none⟩) xs.length cap := by
  obtain ⟨g, cap, hv⟩ := h.1.form
  exact ⟨g, cap, by rw [hv, Lib.byteCells_length]⟩
end
theorem parInv_start {m s : ByteArray} {A : Option Addr} {c : Nat} {l : List S42} {w : World} {i : Nat} {v : Value} {wr : World} (a b : ByteArray) (h : TextInv m s A c l w i v wr) : ParInv m s A c l.length w wr.heap.size a b (textTo m s l i) v (wr.alloc (.cells #[.string a, .string b] 42)) := by
  obtain ⟨h1, h2, h3, h4, h5, h6⟩ := h
  have hb : Below wr.heap.size wr (wr.alloc (.cells #[.string a, .string b] 42)) := (Below.refl _ wr).alloc (Nat.le_refl _) _
  exact ⟨h2.of_below hb, (hb.block _ (by omega)).trans h3, h4.trans (hb.mono (by omega)), heap_alloc_new wr _, by simp; omega⟩
theorem textInv_next {m s : ByteArray} {A : Option Addr} {c : Nat} {l : List S42} {w : World} {i : Nat} {v : Value} {wx : World} {Bp : Nat} {a b : ByteArray} (hi : i < l.length) (hall : ((l.take i).all fun f => smallL f.f0.data.toList) = true) (hs : smallL l[i].f0.data.toList = true) (h : ParInv m s A c l.length w Bp a b (textTo m s l (i + 1)) v wx) : TextInv m s A c l w (i + 1) v wx := by
  obtain ⟨h1, h2, h3, h4, h5⟩ := h
  refine ⟨hi, h1, h2, h3, ?_, h5⟩
  rw [List.take_succ_eq_append_getElem hi, List.all_append, hall]
  simp [hs]
theorem byteCells_str (l : List UInt8) (y : ByteArray) : Lib.byteCells l ++ Lib.strCells y = Lib.byteCells (l ++ y.data.toList) := by
  simp [Lib.byteCells, Lib.strCells]
theorem byteCells_snoc' (l : List UInt8) (c : UInt8) (x : Int) (h : (c.toNat : Int) = x) : Lib.byteCells l ++ [.int .u8 x] = Lib.byteCells (l ++ [c]) := by
  subst h; simp [Lib.byteCells]
theorem cell_new (w : World) (v : Value) (T : TypeId) : (w.alloc (.cells #[v] T)).cell? ⟨w.heap.size, 0, none⟩ = some v := by
  simp
theorem escC_two' (c : UInt8) (h : (c.toNat : Int) = 34 ∨ (c.toNat : Int) = 92) : escC c = [92, c] := by
  unfold escC; rw [if_pos]
  rcases h with h | h
  · exact .inl ((u8_ofInt c 34).1 h)
  · exact .inr ((u8_ofInt c 92).1 h)
theorem escC_one' (c : UInt8) (h : ¬ ((c.toNat : Int) = 34 ∨ (c.toNat : Int) = 92)) : escC c = [c] := by
  unfold escC; rw [if_neg]
  rintro (e | e)
  · exact h (.inl ((u8_ofInt c 34).2 e))
  · exact h (.inr ((u8_ofInt c 92).2 e))
theorem escL_take_le (l : List UInt8) (k : Nat) : (escL (l.take k)).length ≤ (escL l).length := by
  conv => rhs; rw [← List.take_append_drop k l]
  unfold escL; rw [List.flatMap_append, List.length_append]; omega
theorem textR_no (m s : ByteArray) (l : List S42) (i : Nat) (hi : i < l.length) (hs : smallL l[i].f0.data.toList = false) : textR m s l = (⟨#[]⟩, false) := by
  have : textOk m s l = false := by
    unfold textOk
    rw [Bool.and_eq_false_iff]; right
    rw [List.all_eq_false]
    exact ⟨l[i], List.getElem_mem _, by simp [hs]⟩
  simp [textR, this]
theorem textR_yes (m s : ByteArray) (l : List S42) (i : Nat) (hi : l.length ≤ i) (hm : smallL m.data.toList = true) (hs : smallL s.data.toList = true) (hall : ((l.take i).all fun f => smallL f.f0.data.toList) = true) : textR m s l = (⟨(textTo m s l i).toArray⟩, true) := by
  rw [List.take_of_length_le hi] at hall
  have : textOk m s l = true := by unfold textOk; rw [hm, hs, hall]; rfl
  have e : textTo m s l i = textTo m s l l.length := by unfold textTo; rw [List.take_of_length_le hi, List.take_of_length_le (Nat.le_refl _)]
  simp [textR, this, e]
theorem size_param (nm : ByteArray) : ((⟨#[59, 32]⟩ : ByteArray) ++ nm ++ (⟨#[61]⟩ : ByteArray)).size = nm.size + 3 := by
  rw [ByteArray.size_append, ByteArray.size_append]
  show 2 + nm.size + 1 = _
  omega
theorem textTo_token (m s : ByteArray) (l : List S42) (i : Nat) (hi : i < l.length) (ht : tokL l[i].f1.data.toList = true) : textTo m s l i ++ ((⟨#[59, 32]⟩ : ByteArray) ++ l[i].f0 ++ (⟨#[61]⟩ : ByteArray)).data.toList ++ l[i].f1.data.toList = textTo m s l (i + 1) := by
  rw [textTo_succ m s l i hi, paramW, writtenL, if_pos ht]; simp
theorem textTo_quoted (m s : ByteArray) (l : List S42) (i : Nat) (hi : i < l.length) (ht : tokL l[i].f1.data.toList = false) : textTo m s l i ++ ((⟨#[59, 32]⟩ : ByteArray) ++ l[i].f0 ++ (⟨#[61]⟩ : ByteArray)).data.toList ++ [34] ++ escL l[i].f1.data.toList ++ [34] = textTo m s l (i + 1) := by
  rw [textTo_succ m s l i hi, paramW, writtenL, if_neg (by simp [ht])]; simp
set_option maxHeartbeats 4000000 in
set_option maxRecDepth 100000 in
theorem text_good (m s : ByteArray) (A : Option Addr) (c : Nat) (l : List S42) (w : World) (hr : Kd.C k42 w A l.length l) (hc : l.length ≤ c) (hl : textMax m s l < 140737488355328) (hsm : smallL m.data.toList = true) (hss : smallL s.data.toList = true) :
    Calls Try.prog 47 #[.agg #[.string m, .string s, .slice A l.length c]] w fun e w' => e = .returned (.tuple #[.string (textR m s l).1, .bool (textR m s l).2]) ∧ Below w.heap.size w w' := by
  have h1 : m.size < 140737488355328 ∧ s.size < 140737488355328 := by unfold textMax at hl; omega
  obtain ⟨i0, hi, hz0, hz1, hz2⟩ := info_parts (show (Try.prog.info? 5).map (fun i => (i.zero, i.size, i.bytes)) = some (some (.int .u8 0), 1, 1) by kernel_rfl)
  have H1 := Lib.hid (fun w => small_calls m w h1.1 true hsm)
  have H2 := Lib.hid (fun w => small_calls s w h1.2 true hss)
  have HR := Lib.hid hr
  have hlm := Kd.C_max hr
  have HL := Lib.hid hl
  have HSM := Lib.hid hsm
  have HSS := Lib.hid hss
  clear hsm hss hr
  go_enter Try.func47, Try.ntmps47
  go_wp2_with (fail)
  refine (H1.out _).mono ?_
  rintro e w1 ⟨rfl, b1⟩
  have hb1 : w1.heap[w.heap.size]? = some (.cells #[.string m, .string s, .slice A l.length c] 57 (0, 0)) := by
    exact (b1.block _ (by simp)).trans (heap_alloc_new w _)
  have hx1 : Below w.heap.size w w1 := ((Below.refl _ w).alloc (Nat.le_refl _) _).trans (b1.mono (by simp))
  have hz1' : w.heap.size + 1 ≤ w1.heap.size := by have := b1.size; simpa using this
  clear b1
  have c1 : w1.cell? ⟨w.heap.size, 1, none⟩ = some (.string s) := by simp [World.cell?, hb1]
  go_wp2_with (fail)
  refine (H2.out _).mono ?_
  rintro e w2 ⟨rfl, b2⟩
  have hb2 : w2.heap[w.heap.size]? = some (.cells #[.string m, .string s, .slice A l.length c] 57 (0, 0)) := by
    rw [b2.block _ (by omega)]; exact hb1
  have hx2 : Below w.heap.size w w2 := hx1.trans (b2.mono (by omega))
  have hz2' : w.heap.size + 1 ≤ w2.heap.size := Nat.le_trans hz1' b2.size
  clear b2 hb1 hx1 hz1' c1
  have c0 : w2.cell? ⟨w.heap.size, 0, none⟩ = some (.string m) := by simp [World.cell?, hb2]
  have c1 : w2.cell? ⟨w.heap.size, 1, none⟩ = some (.string s) := by simp [World.cell?, hb2]
  have hcv := Lib.run_convert_string_bytes (P := Try.prog) w2 9 22 5 (m ++ ⟨#[47]⟩ ++ s) Try.underlying9 Try.underlying22 Try.underlying5
  have hlen := size_three m s
  have hbnd : m.size + 1 + s.size ≤ 140737488355328 := by have := HL.out; unfold textMax at this; omega
  have HI := Lib.hid (textInv_start m s A c l w w2 hb2 hx2 hz2' hbnd)
  clear hb2 hx2 hz2'
  go_wp2
  go_loopw [4, 5] (fun v4 v5 wr => ∃ i : Nat, v5 = .int .i64 i ∧ Hid (TextInv m s A c l w i v4 wr)) (fun _ v5 _ => l.length - (intOf v5).toNat)
  case atStart => exact ⟨0, rfl, HI⟩
  case round =>
    clear hcv HI c0 c1
    obtain ⟨i, rfl, hT⟩ := hrel
    obtain ⟨hi1, hown, hbox, hbw, hall, hzr⟩ := hT.out
    have hc2 : wr.cell? ⟨w.heap.size, 2, none⟩ = some (.slice A l.length c) := by simp [World.cell?, hbox]
    have HA := Lib.hid hall
    obtain ⟨g, cap, rfl⟩ := hown.form
    have HO := Lib.hid hown
    clear hown hbox hall
    by_cases hlt : i < l.length
    · obtain ⟨ad, rfl, h0, h1⟩ := at_T42 (Kd.C_below HR.out hbw) (i : Int) (by omega) (by omega)
      have hF := rd_T42_at' l i hlt
      have hmx := textTo_le m s l (i + 1)
      have hmx0 := textTo_le m s l i
      have hmx1 : (textTo m s l (i + 1)).length = (textTo m s l i).length + (paramW l[i]).length := by rw [textTo_succ m s l i hlt, List.length_append]
      have hvs := le_textMax m s l i hlt
      have htq := fun ht => textTo_token m s l i hlt ht
      have htk := fun ht => textTo_quoted m s l i hlt ht
      have hno := fun hs => textR_no m s l i hlt hs
      have hnx := fun v wx Bp a b hs => textInv_next (m := m) (s := s) (A := some ad) (c := c) (w := w) (v := v) (wx := wx) (Bp := Bp) (a := a) (b := b) hlt HA.out hs
      have hP0 := parInv_start (rd_T42 l (i : Int)).f0 (rd_T42 l (i : Int)).f1 hT.out
      have hpl : (paramW l[i]).length = l[i].f0.size + 3 + (writtenL l[i].f1.data.toList).length := by simp [paramW]; omega
      simp only [Int.toNat_natCast] at h0 h1
      rw [hF] at h0 h1 hP0
      have HFq := Lib.hid hF
      clear hF hT
      generalize l[i] = f at *
      obtain ⟨nm, vl⟩ := f
      simp only at *
      have HP0 := Lib.hid hP0
      have HNO := Lib.hid hno
      have HTQ := Lib.hid htq
      have HTK := Lib.hid htk
      have HNX := Lib.hid hnx
      clear hP0 hno htq htk hnx
      have hsz : nm.size < 140737488355328 := by have := HL.out; omega
      cases hsn : smallL nm.data.toList with
      | false =>
        have H3 := Lib.hid (fun w => small_calls nm w hsz false hsn)
        have HE := Lib.hid (HNO.out hsn)
        clear hsn
        go_wp2_with (fail)
        refine (H3.out _).mono ?_
        rintro e w3 ⟨rfl, b3⟩
        go_wp2
        go_ret2
        exact ⟨by rw [HE.out]; rfl, hbw.trans (((Below.refl _ wr).alloc (Nat.le_refl _) _).trans (b3.mono (by simp)) |>.mono hbw.size)⟩
      | true =>
        have H3 := Lib.hid (fun w => small_calls nm w hsz true hsn)
        have HSN := Lib.hid hsn
        clear hsn
        have hys := size_param nm
        go_wp2_with (fail)
        refine (H3.out _).mono ?_
        rintro e w3 ⟨rfl, b3⟩
        have P3 := HP0.out.below b3
        clear b3
        have d0 := P3.cell0
        have hp5 := P3.2.2.2.2
        have hl3 : (Lib.byteCells (textTo m s l i)).length + ((⟨#[59, 32]⟩ : ByteArray) ++ nm ++ (⟨#[61]⟩ : ByteArray)).size ≤ 140737488355328 := by
          rw [Lib.byteCells_length, hys]; have := HL.out; omega
        have HP3 := Lib.hid P3
        have HL3 := Lib.hid hl3
        clear P3 hl3 hys
        obtain ⟨kt, ht⟩ := (winkleref13_Token.ev vl (by have := HL.out; omega)).rounds
        cases htv : tokL vl.data.toList with
        | true =>
          rw [htv] at ht
          have HT5 := Lib.hid (HTQ.out htv)
          clear htv
          have hl5 : (Lib.byteCells (textTo m s l i ++ ((⟨#[59, 32]⟩ : ByteArray) ++ nm ++ (⟨#[61]⟩ : ByteArray)).data.toList)).length + vl.size ≤ 140737488355328 := by
            have h9 := congrArg List.length HT5.out
            rw [List.length_append, toList_size] at h9
            rw [Lib.byteCells_length]; have := HL.out; omega
          have HL5 := Lib.hid hl5
          clear hl5
          have tok1 : True := trivial
          go_wp2_with (first | (at_builtin; have _t := tok1; refine wpList_appendstr_M _ rfl _ _ 22 9 rfl (w.heap.size + 1) i0 Try.underlying22 Try.underlying9 hi hz0 hz1 hz2 _ _ rfl HP3.out.own _ rfl HL3.out hp5 ?_; clear _t tok1; intro v4 w4 ho4 hg4; have HP4 := Lib.hid (HP3.out.grown (ys := textTo m s l i ++ ((⟨#[59, 32]⟩ : ByteArray) ++ nm ++ (⟨#[61]⟩ : ByteArray)).data.toList) (by rw [← byteCells_str]; exact ho4) hg4); have e1 := HP4.out.cell1; clear ho4 hg4) | (go_at_call 42; refine (winkleref13_Token.calls kt _ _ _ ht).mono ?_; rintro e w5 ⟨rfl, ⟨nd, rfl⟩⟩; have HP5 := Lib.hid (HP4.out.below (pw_below_drewN (Below.refl _ _) nd)); have e5 := HP5.out.cell1; have hp6 := HP5.out.2.2.2.2; have tok2 : True := trivial) | (at_builtin; have _t := tok2; refine wpList_appendstr_M _ rfl _ _ 22 9 rfl (w.heap.size + 1) i0 Try.underlying22 Try.underlying9 hi hz0 hz1 hz2 _ _ rfl HP5.out.own _ rfl HL5.out hp6 ?_; clear _t tok2; intro v6 w6 ho6 hg6; have HP6 := Lib.hid (HP5.out.grown (ys := _ ++ vl.data.toList) (by rw [← byteCells_str]; exact ho6) hg6); clear ho6 hg6))
          exact ⟨⟨i + 1, by go_num, HNX.out _ _ _ _ _ HSN.out (by rw [HT5.out] at HP6; exact HP6.out)⟩, by simp [intOf]; omega⟩
        | false =>
          rw [htv] at ht
          have HT5 := Lib.hid (HTK.out htv)
          clear htv
          have hl9 : (textTo m s l i ++ ((⟨#[59, 32]⟩ : ByteArray) ++ nm ++ (⟨#[61]⟩ : ByteArray)).data.toList).length + 2 + (escL vl.data.toList).length ≤ 140737488355328 := by
            have h9 := congrArg List.length HT5.out
            simp only [List.length_append, List.length_cons, List.length_nil] at h9 ⊢
            have := HL.out; omega
          have HL9 := Lib.hid hl9
          clear hl9
          have tok1 : True := trivial
          go_wp2_with (first | (at_builtin; have _t := tok1; refine wpList_appendstr_M _ rfl _ _ 22 9 rfl (w.heap.size + 1) i0 Try.underlying22 Try.underlying9 hi hz0 hz1 hz2 _ _ rfl HP3.out.own _ rfl HL3.out hp5 ?_; clear _t tok1; intro v4 w4 ho4 hg4; have HP4 := Lib.hid (HP3.out.grown (ys := textTo m s l i ++ ((⟨#[59, 32]⟩ : ByteArray) ++ nm ++ (⟨#[61]⟩ : ByteArray)).data.toList) (by rw [← byteCells_str]; exact ho4) hg4); have e1 := HP4.out.cell1; clear ho4 hg4) | (go_at_call 42; refine (winkleref13_Token.calls kt _ _ _ ht).mono ?_; rintro e w5 ⟨rfl, ⟨nd, rfl⟩⟩; have HP5 := Lib.hid (HP4.out.below (pw_below_drewN (Below.refl _ _) nd)); have e5 := HP5.out.cell1; have hp6 := HP5.out.2.2.2.2; have hl5 : (Lib.byteCells (textTo m s l i ++ ((⟨#[59, 32]⟩ : ByteArray) ++ nm ++ (⟨#[61]⟩ : ByteArray)).data.toList)).length + 1 ≤ 140737488355328 := (by rw [Lib.byteCells_length]; have := HL9.out; omega); have HL5 := Lib.hid hl5; clear hl5; have tok2 : True := trivial) | (at_builtin; have _t := tok2; refine wpList_append_M _ rfl _ _ 22 rfl (w.heap.size + 1) i0 Try.underlying22 hi hz0 hz1 hz2 _ _ rfl (HP5.out.below ((Below.refl _ _).alloc (Nat.le_refl _) _)).own ⟨_, 0, none⟩ 1 (.int .u8 34) rfl (cell_new _ _ _) rfl HL5.out (Nat.le_trans hp6 (by simp)) ?_; clear _t tok2; intro v6 w6 ho6 hg6; have HP6 := Lib.hid ((HP5.out.below ((Below.refl _ _).alloc (Nat.le_refl _) _)).grown (ys := _ ++ [34]) (by rw [← byteCells_snoc' _ _ _ rfl]; exact ho6) hg6); clear ho6 hg6))
          have HQ0 := HP6
          clear HP5 HP4 HP3 e1 e5 hp5 hp6 HL3 HL5 d0 HP0
          generalize textTo m s l i ++ ((⟨#[59, 32]⟩ : ByteArray) ++ nm ++ (⟨#[61]⟩ : ByteArray)).data.toList = pre at *
          have hpq := HQ0.out.2.2.2.2
          go_loopw [4, 7] (fun v4 v7 wq => ∃ k : Nat, v7 = .int .i64 k ∧ k ≤ vl.size ∧ Hid (ParInv m s (some ad) c l.length w wr.heap.size nm vl (pre ++ [34] ++ escL (vl.data.toList.take k)) v4 wq)) (fun _ v7 _ => vl.size - (intOf v7).toNat)
          case atStart => exact ⟨0, rfl, by omega, by simpa [escL] using HQ0⟩
          case round =>
            clear HQ0 hpq HP6
            obtain ⟨k, rfl, hk, HP⟩ := hrel
            have hcell := HP.out.cell1
            have hbp := HP.out.2.2.2.2
            obtain ⟨g7, cap7, hv7⟩ := HP.out.form
            subst hv7
            have hle := escL_take_le vl.data.toList k
            by_cases hlk : k < vl.size
            · have HS := Lib.hid (escL_snoc vl k hlk)
              have hle2 := escL_take_le vl.data.toList (k + 1)
              rw [HS.out, List.length_append] at hle2
              by_cases hc : ((vl[k]'hlk).toNat : Int) = 34 ∨ ((vl[k]'hlk).toNat : Int) = 92
              · have HX := Lib.hid (escC_two' (vl[k]'hlk) hc)
                have hcl : (escC (vl[k]'hlk)).length = 2 := by rw [HX.out]; rfl
                have hla : (Lib.byteCells (pre ++ [34] ++ escL (vl.data.toList.take k))).length + 1 ≤ 140737488355328 := by
                  rw [Lib.byteCells_length]; have := HL9.out; simp only [List.length_append, List.length_cons, List.length_nil] at this ⊢; omega
                have hlb : (Lib.byteCells (pre ++ [34] ++ escL (vl.data.toList.take k) ++ [92])).length + 1 ≤ 140737488355328 := by
                  rw [Lib.byteCells_length]; have := HL9.out; simp only [List.length_append, List.length_cons, List.length_nil] at this ⊢; omega
                have HLA := Lib.hid hla
                have HLB := Lib.hid hlb
                clear hla hlb hcl hle2 hle
                have tok1 : True := trivial
                by_cases h34 : ((vl[k]'hlk).toNat : Int) = 34
                · have c1 : (((vl[k]'hlk).toNat : Int) == 34) = true := beq_iff_eq.2 h34
                  clear hc h34
                  go_wp2_with (first | (at_builtin; have _t := tok1; refine wpList_append_M _ rfl _ _ 22 rfl (w.heap.size + 1) i0 Try.underlying22 hi hz0 hz1 hz2 _ _ rfl (HP.out.below ((Below.refl _ _).alloc (Nat.le_refl _) _)).own ⟨_, 0, none⟩ 1 (.int .u8 92) rfl (cell_new _ _ _) rfl HLA.out (Nat.le_trans hbp (by simp)) ?_; clear _t tok1; intro va wa hoa hga; have HPa := Lib.hid ((HP.out.below ((Below.refl _ _).alloc (Nat.le_refl _) _)).grown (ys := _ ++ [92]) (by rw [← byteCells_snoc' _ _ _ rfl]; exact hoa) hga); clear hoa hga; have hcella := HPa.out.cell1; have hbpa := HPa.out.2.2.2.2; have tok2 : True := trivial) | (at_builtin; have _t := tok2; refine wpList_append_M _ rfl _ _ 22 rfl (w.heap.size + 1) i0 Try.underlying22 hi hz0 hz1 hz2 _ _ rfl (HPa.out.below ((Below.refl _ _).alloc (Nat.le_refl _) _)).own ⟨_, 0, none⟩ 1 (.int .u8 ((vl[k]'hlk).toNat : Int)) rfl (cell_new _ _ _) rfl HLB.out (Nat.le_trans hbpa (by simp)) ?_; clear _t tok2; intro vb wb hob hgb; have HPb := Lib.hid ((HPa.out.below ((Below.refl _ _).alloc (Nat.le_refl _) _)).grown (ys := _ ++ [vl[k]'hlk]) (by rw [← byteCells_snoc' _ _ _ rfl]; exact hob) hgb); clear hob hgb))
                  exact ⟨⟨k + 1, by go_num, by omega, by rw [HS.out, HX.out]; simpa using HPb⟩, by simp [intOf]; omega⟩
                · have c1 : (((vl[k]'hlk).toNat : Int) == 34) = false := beq_eq_false_iff_ne.2 h34
                  have c2 : (((vl[k]'hlk).toNat : Int) == 92) = true := beq_iff_eq.2 (hc.resolve_left h34)
                  clear hc h34
                  go_wp2_with (first | (at_builtin; have _t := tok1; refine wpList_append_M _ rfl _ _ 22 rfl (w.heap.size + 1) i0 Try.underlying22 hi hz0 hz1 hz2 _ _ rfl (HP.out.below ((Below.refl _ _).alloc (Nat.le_refl _) _)).own ⟨_, 0, none⟩ 1 (.int .u8 92) rfl (cell_new _ _ _) rfl HLA.out (Nat.le_trans hbp (by simp)) ?_; clear _t tok1; intro va wa hoa hga; have HPa := Lib.hid ((HP.out.below ((Below.refl _ _).alloc (Nat.le_refl _) _)).grown (ys := _ ++ [92]) (by rw [← byteCells_snoc' _ _ _ rfl]; exact hoa) hga); clear hoa hga; have hcella := HPa.out.cell1; have hbpa := HPa.out.2.2.2.2; have tok2 : True := trivial) | (at_builtin; have _t := tok2; refine wpList_append_M _ rfl _ _ 22 rfl (w.heap.size + 1) i0 Try.underlying22 hi hz0 hz1 hz2 _ _ rfl (HPa.out.below ((Below.refl _ _).alloc (Nat.le_refl _) _)).own ⟨_, 0, none⟩ 1 (.int .u8 ((vl[k]'hlk).toNat : Int)) rfl (cell_new _ _ _) rfl HLB.out (Nat.le_trans hbpa (by simp)) ?_; clear _t tok2; intro vb wb hob hgb; have HPb := Lib.hid ((HPa.out.below ((Below.refl _ _).alloc (Nat.le_refl _) _)).grown (ys := _ ++ [vl[k]'hlk]) (by rw [← byteCells_snoc' _ _ _ rfl]; exact hob) hgb); clear hob hgb))
                  exact ⟨⟨k + 1, by go_num, by omega, by rw [HS.out, HX.out]; simpa using HPb⟩, by simp [intOf]; omega⟩
              · have c1 : (((vl[k]'hlk).toNat : Int) == 34) = false := beq_eq_false_iff_ne.2 (fun e => hc (.inl e))
                have c2 : (((vl[k]'hlk).toNat : Int) == 92) = false := beq_eq_false_iff_ne.2 (fun e => hc (.inr e))
                have HX := Lib.hid (escC_one' (vl[k]'hlk) hc)
                have hla : (Lib.byteCells (pre ++ [34] ++ escL (vl.data.toList.take k))).length + 1 ≤ 140737488355328 := by
                  rw [Lib.byteCells_length]; have := HL9.out; simp only [List.length_append, List.length_cons, List.length_nil] at this ⊢; omega
                have HLA := Lib.hid hla
                clear hla hle2 hle hc
                have tok1 : True := trivial
                go_wp2_with (first | (at_builtin; have _t := tok1; refine wpList_append_M _ rfl _ _ 22 rfl (w.heap.size + 1) i0 Try.underlying22 hi hz0 hz1 hz2 _ _ rfl (HP.out.below ((Below.refl _ _).alloc (Nat.le_refl _) _)).own ⟨_, 0, none⟩ 1 (.int .u8 ((vl[k]'hlk).toNat : Int)) rfl (cell_new _ _ _) rfl HLA.out (Nat.le_trans hbp (by simp)) ?_; clear _t tok1; intro vb wb hob hgb; have HPb := Lib.hid ((HP.out.below ((Below.refl _ _).alloc (Nat.le_refl _) _)).grown (ys := _ ++ [vl[k]'hlk]) (by rw [← byteCells_snoc' _ _ _ rfl]; exact hob) hgb); clear hob hgb))
                exact ⟨⟨k + 1, by go_num, by omega, by rw [HS.out, HX.out]; simpa using HPb⟩, by simp [intOf]; omega⟩
            · have HK := Lib.hid (show escL (vl.data.toList.take k) = escL vl.data.toList by rw [List.take_of_length_le (by simp; omega)])
              have hla : (Lib.byteCells (pre ++ [34] ++ escL (vl.data.toList.take k))).length + 1 ≤ 140737488355328 := by
                rw [Lib.byteCells_length]; have := HL9.out; simp only [List.length_append, List.length_cons, List.length_nil] at this ⊢; omega
              have HLA := Lib.hid hla
              clear hla hle
              have tok1 : True := trivial
              go_wp2_with (first | (at_builtin; have _t := tok1; refine wpList_append_M _ rfl _ _ 22 rfl (w.heap.size + 1) i0 Try.underlying22 hi hz0 hz1 hz2 _ _ rfl (HP.out.below ((Below.refl _ _).alloc (Nat.le_refl _) _)).own ⟨_, 0, none⟩ 1 (.int .u8 34) rfl (cell_new _ _ _) rfl HLA.out (Nat.le_trans hbp (by simp)) ?_; clear _t tok1; intro vb wb hob hgb; have HPb := Lib.hid ((HP.out.below ((Below.refl _ _).alloc (Nat.le_refl _) _)).grown (ys := _ ++ [34]) (by rw [← byteCells_snoc' _ _ _ rfl]; exact hob) hgb); clear hob hgb))
              exact ⟨⟨i + 1, by go_num, HNX.out _ _ _ _ _ HSN.out (by rw [HK.out, HT5.out] at HPb; exact HPb.out)⟩, by simp [intOf]; omega⟩
    · have HE := Lib.hid (textR_yes m s l i (by omega) HSM.out HSS.out HA.out)
      have hcs := HO.out.string (by have := textTo_le m s l i; have := HL.out; omega)
      clear hT
      go_wp2
      go_ret2
      exact ⟨by rw [HE.out]; rfl, hbw⟩
theorem winkleref13_Text.calls (a0_0 : ByteArray) (a0_1 : ByteArray) (A0_2 : Option Addr) (c0_2 : Nat) (l0_2 : List (S42)) (r1 : ByteArray) (r2 : Bool) (w : World) (hr0_2 : Kd.C k42 w A0_2 l0_2.length l0_2) (hc0_2 : l0_2.length ≤ c0_2) (h : winkleref13_Text.f a0_0 a0_1 l0_2 = some (r1, r2)) :
    Calls Try.prog 47 #[.agg #[.string a0_0, .string a0_1, .slice A0_2 l0_2.length c0_2]] w fun e w' => e = .returned (.tuple #[.string r1, .bool r2]) ∧ Below w.heap.size w w' := by
  unfold winkleref13_Text.f at h
  split at h
  case isFalse => cases h
  case isTrue hl =>
  have hE := Option.some.inj h
  cases hms : smallL a0_0.data.toList && smallL a0_1.data.toList with
  | false =>
    have hno : textR a0_0 a0_1 l0_2 = (⟨#[]⟩, false) := by
      have : textOk a0_0 a0_1 l0_2 = false := by unfold textOk; rw [hms]; rfl
      simp [textR, this]
    rw [hno] at hE
    simp only [Prod.mk.injEq] at hE
    obtain ⟨rfl, rfl⟩ := hE
    exact text_bad _ _ _ _ _ _ hl hms
  | true =>
    obtain ⟨h1, h2⟩ := Bool.and_eq_true_iff.1 hms
    have := text_good a0_0 a0_1 A0_2 c0_2 l0_2 w hr0_2 hc0_2 hl h1 h2
    rw [hE] at this
    exact this
end Go.Proofs.Ytodidfdfbanliaa.PAll
