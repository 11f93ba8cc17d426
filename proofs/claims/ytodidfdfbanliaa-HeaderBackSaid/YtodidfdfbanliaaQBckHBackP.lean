/- HeaderBack, in plain words: fields that are written, a line each or broken ahead of blanks, are read back. -/
import Derived.Test.YtodidfdfbanliaaQBckHWhole
import Derived.Test.YtodidfdfbanliaaQBckHSem1
set_option linter.unusedVariables false
set_option linter.unusedSimpArgs false
namespace Go.Proofs.Ytodidfdfbanliaa.PAll
open Go.RowKit Go.Proofs.YtodidfdfbanliaaW.PrintWords Go.Proofs.YtodidfdfbanliaaW.PrintLast Go.Proofs.YtodidfdfbanliaaW.PrintMore
def nI (l : List UInt8) : List Int := l.map fun c => (c.toNat : Int)
theorem nI_app (a b : List UInt8) : nI (a ++ b) = nI a ++ nI b := by simp [nI]
theorem nI_cons (c : UInt8) (b : List UInt8) : nI (c :: b) = (c.toNat : Int) :: nI b := rfl
theorem nI_len (a : List UInt8) : (nI a).length = a.length := by simp [nI]
theorem strOf_nI (l : List UInt8) : strOfNums (nI l) = ⟨l.toArray⟩ := strOfNums_map l
/-- One more line, told by its bytes. -/
def lineU (fs : List S42) (L : List UInt8) : List S42 × Int := lineR fs ⟨L.toArray⟩
theorem lineU_bl (fs : List S42) (c : UInt8) (L : List UInt8) (hc : isBl c = true) (hf : fs ≠ []) : lineU fs (c :: L) = (addLast fs ⟨(c :: L).toArray⟩, 0) := by
  unfold lineU lineR
  rw [if_pos (by simpa [firstBl] using hc), if_neg hf]
theorem lineU_name (fs : List S42) (L : List UInt8) (h0 : firstBl ⟨L.toArray⟩ = false) (hn : nameL L ≠ 0) (hf : fs.length ≠ 64) :
    lineU fs L = (fs ++ [⟨⟨(L.take (nameL L)).toArray⟩, ⟨(L.drop (nameL L + 1)).toArray⟩⟩], 0) := by
  unfold lineU lineR
  rw [if_neg (by rw [h0]; exact Bool.false_ne_true), if_neg hn, if_neg hf]
  have e1 : (⟨L.toArray⟩ : ByteArray).extract 0 (nameL L) = ⟨(L.take (nameL L)).toArray⟩ := by apply ext_toList; rw [extract_toList]; simp
  have e2 : (⟨L.toArray⟩ : ByteArray).extract (nameL L + 1) (⟨L.toArray⟩ : ByteArray).size = ⟨(L.drop (nameL L + 1)).toArray⟩ := by
    apply ext_toList; rw [extract_toList, List.take_of_length_le (by rw [toList_size]; exact Nat.le_refl _)]
  show (fs ++ [⟨(⟨L.toArray⟩ : ByteArray).extract 0 (nameL L), (⟨L.toArray⟩ : ByteArray).extract (nameL L + 1) (⟨L.toArray⟩ : ByteArray).size⟩], (0 : Int)) = _
  rw [e1, e2]
theorem nameL_app (L x : List UInt8) (h : nameL L ≠ 0) : nameL (L ++ x) = nameL L := by
  have hlt := nameL_lt L h
  unfold nameL at h hlt ⊢
  by_cases hc : L[(L.takeWhile okName).length]? = some 58
  · rw [if_pos hc] at hlt ⊢
    have e : (L ++ x).takeWhile okName = L.takeWhile okName := by
      rw [List.takeWhile_append, if_neg (by omega)]
    rw [e, if_pos (by rw [List.getElem?_append_left hlt]; exact hc)]
  · rw [if_neg hc] at h; exact absurd rfl h
/-- A line that is taken goes on, or is broken ahead of a blank: the same fields. -/
inductive Good (fs : List S42) (L : List UInt8) : Prop
  | bl (c : UInt8) (t : List UInt8) (e : L = c :: t) (hc : isBl c = true) (hf : fs ≠ [])
  | name (h0 : firstBl ⟨L.toArray⟩ = false) (hn : nameL L ≠ 0) (hf : fs.length ≠ 64)
theorem Good.ok {fs : List S42} {L : List UInt8} (h : Good fs L) : (lineU fs L).2 = 0 := by
  cases h with
  | bl c t e hc hf => rw [e, lineU_bl fs c t hc hf]
  | name h0 hn hf => rw [lineU_name fs L h0 hn hf]
theorem Good.ne {fs : List S42} {L : List UInt8} (h : Good fs L) : L ≠ [] := by
  cases h with
  | bl c t e hc hf => rw [e]; exact List.cons_ne_nil _ _
  | name h0 hn hf => rintro rfl; exact hn rfl
theorem Good.fields {fs : List S42} {L : List UInt8} (h : Good fs L) : (lineU fs L).1 ≠ [] := by
  cases h with
  | bl c t e hc hf =>
    rw [e, lineU_bl fs c t hc hf]
    intro e; apply hf; unfold addLast at e
    exact List.eq_nil_of_length_eq_zero (by have := congrArg List.length e; simpa using this)
  | name h0 hn hf => rw [lineU_name fs L h0 hn hf]; simp
theorem firstBl_app {L : List UInt8} (x : List UInt8) (hL : L ≠ []) : firstBl ⟨(L ++ x).toArray⟩ = firstBl ⟨L.toArray⟩ := by
  cases L with
  | nil => exact absurd rfl hL
  | cons c t => rfl
theorem Good.app {fs : List S42} {L : List UInt8} (h : Good fs L) (x : List UInt8) : Good fs (L ++ x) := by
  have hne := h.ne
  cases h with
  | bl c t e hc hf => exact .bl c (t ++ x) (by rw [e]; rfl) hc hf
  | name h0 hn hf => exact .name (by rw [firstBl_app x hne]; exact h0) (by rw [nameL_app L x hn]; exact hn) hf
theorem addLast_addLast (fs : List S42) (a b : List UInt8) (hf : fs ≠ []) : addLast (addLast fs ⟨a.toArray⟩) ⟨b.toArray⟩ = addLast fs ⟨(a ++ b).toArray⟩ := by
  have hl : fs.length - 1 < fs.length := by
    have : fs.length ≠ 0 := fun e => hf (List.eq_nil_of_length_eq_zero e)
    omega
  unfold addLast
  rw [List.length_set, List.set_set]
  congr 1
  have e1 : (fs.set (fs.length - 1) ⟨(fs.getD (fs.length - 1) zS).f0, (fs.getD (fs.length - 1) zS).f1 ++ ⟨a.toArray⟩⟩).getD (fs.length - 1) zS = ⟨(fs.getD (fs.length - 1) zS).f0, (fs.getD (fs.length - 1) zS).f1 ++ ⟨a.toArray⟩⟩ := by
    rw [List.getD_eq_getElem?_getD, List.getElem?_set_self hl]; rfl
  rw [e1]
  congr 1
  apply ext_toList
  simp
theorem addLast_snoc (fs : List S42) (n v b : List UInt8) : addLast (fs ++ [⟨⟨n.toArray⟩, ⟨v.toArray⟩⟩]) ⟨b.toArray⟩ = fs ++ [⟨⟨n.toArray⟩, ⟨(v ++ b).toArray⟩⟩] := by
  unfold addLast
  have e0 : (fs ++ [(⟨⟨n.toArray⟩, ⟨v.toArray⟩⟩ : S42)]).length - 1 = fs.length := by simp
  have e1 : (fs ++ [(⟨⟨n.toArray⟩, ⟨v.toArray⟩⟩ : S42)]).getD fs.length zS = ⟨⟨n.toArray⟩, ⟨v.toArray⟩⟩ := by
    rw [List.getD_eq_getElem?_getD, List.getElem?_append_right (Nat.le_refl _)]; simp
  rw [e0, e1, List.set_append_right _ _ (Nat.le_refl _)]
  have e2 : (⟨v.toArray⟩ : ByteArray) ++ ⟨b.toArray⟩ = ⟨(v ++ b).toArray⟩ := by apply ext_toList; simp
  simp [e2]
theorem Good.join {fs : List S42} {L : List UInt8} (h : Good fs L) (c : UInt8) (t : List UInt8) (hc : isBl c = true) : lineU (lineU fs L).1 (c :: t) = lineU fs (L ++ c :: t) := by
  rw [lineU_bl _ c t hc h.fields]
  cases h with
  | bl d u e hd hf =>
    subst e
    rw [lineU_bl fs d u hd hf]
    show _ = lineU fs (d :: (u ++ c :: t))
    rw [lineU_bl fs d _ hd hf]
    show (addLast (addLast fs _) _, (0 : Int)) = _
    rw [addLast_addLast fs _ _ hf]; rfl
  | name h0 hn hf =>
    have hne : L ≠ [] := by rintro rfl; exact hn rfl
    have hlt := nameL_lt L hn
    rw [lineU_name fs L h0 hn hf, lineU_name fs (L ++ c :: t) (by rw [firstBl_app _ hne]; exact h0) (by rw [nameL_app L _ hn]; exact hn) hf, nameL_app L _ hn]
    show (addLast (fs ++ _) _, (0 : Int)) = _
    rw [addLast_snoc, List.take_append_of_le_length (by omega), List.drop_append_of_le_length (by omega)]
def eL (b : Bool) : List UInt8 := if b = true then [10] else [13, 10]
theorem go_char (most : Int) (c : UInt8) (t : List Int) (L : List UInt8) (fs : List S42) (i : Nat) (hi : (i : Int) < most) (hc : c ≠ 10) :
    ofGo most ((c.toNat : Int) :: t) (nI L) fs i = ofGo most t (nI (L ++ [c])) fs (i + 1) := by
  rw [ofGo, if_neg (by omega), if_pos (by intro e; exact hc ((u8_ofInt c 10).1 e)), nI_app]; rfl
theorem go_plain (most : Int) (x : List UInt8) : ∀ (t : List Int) (L : List UInt8) (fs : List S42) (i : Nat), (i : Int) + x.length ≤ most → (∀ c ∈ x, c ≠ 10) →
    ofGo most (nI x ++ t) (nI L) fs i = ofGo most t (nI (L ++ x)) fs (i + x.length) := by
  induction x with
  | nil => intro t L fs i _ _; simp [nI]
  | cons c x ih =>
    intro t L fs i hi hx
    rw [List.length_cons] at hi
    rw [nI_cons, List.cons_append, go_char most c _ L fs i (by omega) (hx c (List.mem_cons_self)), ih t (L ++ [c]) fs (i + 1) (by push_cast at hi ⊢; omega) (fun d hd => hx d (List.mem_cons_of_mem _ hd))]
    simp [Nat.add_assoc, Nat.add_comm 1]
theorem strip_nI (L : List UInt8) (h : L.getLast? ≠ some 13) : stripCR (nI L) = nI L := by
  unfold stripCR
  rw [if_neg]
  intro e
  apply h
  unfold nI at e
  rw [List.getLast?_map] at e
  cases hl : L.getLast? with
  | none => rw [hl] at e; cases e
  | some c =>
    rw [hl] at e
    injection e with e
    rw [(u8_ofInt c 13).1 e]
theorem strip_cr (L : List UInt8) : stripCR (nI (L ++ [13])) = nI L := by
  unfold stripCR nI
  rw [List.map_append]
  show (if (List.map _ L ++ [((13 : UInt8).toNat : Int)]).getLast? = some 13 then _ else _) = _
  rw [if_pos (by simp)]
  simp
/-- A line's end. -/
theorem go_end (most : Int) (b : Bool) (t : List Int) (L : List UInt8) (fs : List S42) (i : Nat) (hi : (i : Int) + 2 ≤ most) (hL : Good fs L) (h13 : L.getLast? ≠ some 13) :
    ofGo most (nI (eL b) ++ t) (nI L) fs i = ofGo most t (nI []) (lineU fs L).1 (i + (eL b).length) := by
  have hne : nI L ≠ [] := by intro e; exact hL.ne (List.eq_nil_of_length_eq_zero (by rw [← nI_len, e]; rfl))
  have hok := hL.ok
  unfold lineU at hok ⊢
  cases b with
  | true =>
    show ofGo most ((10 : Int) :: t) (nI L) fs i = _
    rw [ofGo, if_neg (by omega), if_neg (by simp), strip_nI L h13, if_neg hne, strOf_nI, if_pos hok]; rfl
  | false =>
    show ofGo most (((13 : UInt8).toNat : Int) :: (10 : Int) :: t) (nI L) fs i = _
    rw [go_char most 13 _ L fs i (by omega) (by decide), ofGo, if_neg (by push_cast; omega), if_neg (by simp), strip_cr, if_neg hne, strOf_nI, if_pos hok]; rfl
/-- The empty line. -/
theorem go_last (most : Int) (b : Bool) (t : List Int) (fs : List S42) (i : Nat) (hi : (i : Int) + 2 ≤ most) : ofGo most (nI (eL b) ++ t) (nI []) fs i = (trimF fs, 0, (i : Int) + (eL b).length - 1) := by
  cases b with
  | true =>
    show ofGo most ((10 : Int) :: t) [] fs i = _
    rw [ofGo, if_neg (by omega), if_neg (by simp), if_pos (by rfl)]
    simp [eL]
  | false =>
    show ofGo most (((13 : UInt8).toNat : Int) :: (10 : Int) :: t) (nI []) fs i = _
    rw [go_char most 13 _ [] fs i (by omega) (by decide), ofGo, if_neg (by push_cast; omega), if_neg (by simp), if_pos (by rfl)]
    simp [eL]; omega
/-- A value, broken ahead of a blank behind what is no blank. -/
def brkL (e : List UInt8) : Bool → List UInt8 → List UInt8
  | _, [] => []
  | p, c :: t => (if p = true ∧ isBl c = true then e else []) ++ c :: brkL e (!isBl c) t
theorem brk_len (e : List UInt8) (he : e.length ≤ 2) : ∀ (v : List UInt8) (p : Bool), (brkL e p v).length ≤ 3 * v.length := by
  intro v
  induction v with
  | nil => intro p; simp [brkL]
  | cons c t ih =>
    intro p
    have := ih (!isBl c)
    unfold brkL
    rw [List.length_append, List.length_cons, List.length_cons]
    split
    · omega
    · simp; omega
theorem eL_len (b : Bool) : 1 ≤ (eL b).length ∧ (eL b).length ≤ 2 := by cases b <;> decide
theorem go_value (most : Int) (b : Bool) (t : List Int) (v : List UInt8) : ∀ (p : Bool) (L : List UInt8) (fs : List S42) (i : Nat), (i : Int) + (brkL (eL b) p v).length + 2 ≤ most → Good fs L → L.getLast? ≠ some 13 → (∀ c ∈ v, c ≠ 10 ∧ c ≠ 13) →
    ofGo most (nI (brkL (eL b) p v) ++ (nI (eL b) ++ t)) (nI L) fs i = ofGo most t (nI []) (lineU fs (L ++ v)).1 (i + (brkL (eL b) p v).length + (eL b).length) := by
  induction v with
  | nil =>
    intro p L fs i hi hL h13 _
    simp only [brkL, List.length_nil] at hi ⊢
    show ofGo most (nI (eL b) ++ t) (nI L) fs i = _
    rw [go_end most b t L fs i (by omega) hL h13, List.append_nil]; rfl
  | cons c v ih =>
    intro p L fs i hi hL h13 hv
    have hc := hv c List.mem_cons_self
    have hv' : ∀ d ∈ v, d ≠ 10 ∧ d ≠ 13 := fun d hd => hv d (List.mem_cons_of_mem _ hd)
    by_cases hb : p = true ∧ isBl c = true
    · have e : brkL (eL b) p (c :: v) = eL b ++ c :: brkL (eL b) (!isBl c) v := by rw [brkL, if_pos hb]
      rw [e] at hi ⊢
      rw [List.length_append, List.length_cons] at hi ⊢
      have e2 : nI (eL b ++ c :: brkL (eL b) (!isBl c) v) ++ (nI (eL b) ++ t) = nI (eL b) ++ ((c.toNat : Int) :: (nI (brkL (eL b) (!isBl c) v) ++ (nI (eL b) ++ t))) := by
        rw [nI_app, nI_cons]; simp
      rw [e2, go_end most b _ L fs i (by push_cast at hi; omega) hL h13, go_char most c _ [] _ _ (by push_cast at hi ⊢; omega) hc.1]
      have hg : Good (lineU fs L).1 [c] := .bl c [] rfl hb.2 hL.fields
      rw [show ([] : List UInt8) ++ [c] = [c] from rfl, ih (!isBl c) [c] (lineU fs L).1 _ (by push_cast at hi ⊢; omega) hg (by simpa using hc.2) hv']
      show ofGo most t (nI []) (lineU (lineU fs L).1 (c :: v)).1 _ = _
      rw [hL.join c v hb.2]
      congr 1; omega
    · have e : brkL (eL b) p (c :: v) = c :: brkL (eL b) (!isBl c) v := by rw [brkL, if_neg hb]; rfl
      rw [e] at hi ⊢
      rw [List.length_cons] at hi ⊢
      rw [nI_cons, List.cons_append, go_char most c _ L fs i (by push_cast at hi; omega) hc.1, ih (!isBl c) (L ++ [c]) fs (i + 1) (by push_cast at hi ⊢; omega) (hL.app [c]) (by simpa using hc.2) hv']
      rw [List.append_assoc]
      show ofGo most t (nI []) (lineU fs (L ++ c :: v)).1 _ = _
      congr 1; omega
def okN (n : List UInt8) : Prop := n ≠ [] ∧ (∀ c ∈ n, okName c = true) ∧ n.length ≤ 21
def okV (v : List UInt8) : Prop := (∀ c ∈ v, c ≠ 10 ∧ c ≠ 13) ∧ trimL v = v ∧ v.length ≤ 60
def okF (f : S42) : Prop := okN f.f0.data.toList ∧ okV f.f1.data.toList
def wrV (b q : Bool) (v : List UInt8) : List UInt8 := if q = true then brkL (eL b) false v else v
def wrF (b q : Bool) (f : S42) : List UInt8 := f.f0.data.toList ++ ([58, 32] ++ (wrV b q f.f1.data.toList ++ eL b))
def wrS (b q : Bool) (F : List S42) : List UInt8 := F.flatMap (wrF b q)
def rawF (f : S42) : S42 := ⟨f.f0, ⟨(32 :: f.f1.data.toList).toArray⟩⟩
theorem okName_ne (c : UInt8) (h : okName c = true) : c ≠ 10 ∧ c ≠ 58 ∧ isBl c = false := by
  have := by_bytes (p := fun _ c => okName c = true → c ≠ 10 ∧ c ≠ 58 ∧ isBl c = false) (by decide +kernel) c
  exact this h
theorem nameU_of (n x : List UInt8) (hn : ∀ c ∈ n, okName c = true) : nameL (n ++ 58 :: x) = n.length := by
  unfold nameL
  have e : (n ++ 58 :: x).takeWhile okName = n := by
    rw [List.takeWhile_append_of_pos (by simpa using hn), List.takeWhile_cons_of_neg (by decide), List.append_nil]
  rw [e, if_pos (by rw [List.getElem?_append_right (Nat.le_refl _)]; simp)]
theorem good_name (fs : List S42) (n : List UInt8) (hn : okN n) (hf : fs.length ≠ 64) : Good fs (n ++ [58, 32]) := by
  obtain ⟨h0, h1, h2⟩ := hn
  refine .name ?_ ?_ hf
  · rw [firstBl_app _ h0]
    cases n with
    | nil => exact absurd rfl h0
    | cons c t => exact (okName_ne c (h1 c List.mem_cons_self)).2.2
  · rw [nameU_of n [32] h1]
    exact fun e => h0 (List.eq_nil_of_length_eq_zero e)
theorem line_field (fs : List S42) (f : S42) (hn : okN f.f0.data.toList) (hf : fs.length ≠ 64) : (lineU fs ((f.f0.data.toList ++ [58, 32]) ++ f.f1.data.toList)).1 = fs ++ [rawF f] := by
  have e : (f.f0.data.toList ++ [58, 32]) ++ f.f1.data.toList = f.f0.data.toList ++ 58 :: (32 :: f.f1.data.toList) := by simp
  have hg := (good_name fs f.f0.data.toList hn hf).app f.f1.data.toList
  rw [e] at hg ⊢
  have hl := nameU_of f.f0.data.toList (32 :: f.f1.data.toList) hn.2.1
  have h0 : firstBl ⟨(f.f0.data.toList ++ 58 :: (32 :: f.f1.data.toList)).toArray⟩ = false := by
    rw [firstBl_app _ hn.1]
    cases hx : f.f0.data.toList with
    | nil => exact absurd hx hn.1
    | cons c t => exact (okName_ne c (hn.2.1 c (by rw [hx]; exact List.mem_cons_self))).2.2
  rw [lineU_name fs _ h0 (by rw [hl]; exact fun e => hn.1 (List.eq_nil_of_length_eq_zero e)) hf, hl]
  show fs ++ _ = _
  unfold rawF
  have e1 : (f.f0.data.toList ++ 58 :: (32 :: f.f1.data.toList)).take f.f0.data.toList.length = f.f0.data.toList := by rw [List.take_append_of_le_length (Nat.le_refl _), List.take_length]
  have e2 : (f.f0.data.toList ++ 58 :: (32 :: f.f1.data.toList)).drop (f.f0.data.toList.length + 1) = 32 :: f.f1.data.toList := by rw [← List.drop_drop, List.drop_left]; rfl
  rw [e1, e2]
theorem wrF_len (b q : Bool) (f : S42) (h : okF f) : (wrF b q f).length ≤ 205 := by
  obtain ⟨⟨_, _, h1⟩, ⟨_, _, h2⟩⟩ := h
  have h3 := (eL_len b).2
  have h4 := brk_len (eL b) h3 f.f1.data.toList false
  unfold wrF wrV
  simp only [List.length_append, List.length_cons, List.length_nil]
  split <;> omega
theorem go_plainV (most : Int) (b : Bool) (t : List Int) (v L : List UInt8) (fs : List S42) (i : Nat) (hi : (i : Int) + v.length + 2 ≤ most) (hL : Good fs L) (h13 : L.getLast? ≠ some 13) (hv : ∀ c ∈ v, c ≠ 10 ∧ c ≠ 13) :
    ofGo most (nI v ++ (nI (eL b) ++ t)) (nI L) fs i = ofGo most t (nI []) (lineU fs (L ++ v)).1 (i + v.length + (eL b).length) := by
  rw [go_plain most v _ L fs i (by omega) (fun c hc => (hv c hc).1), go_end most b t _ fs _ (by push_cast; omega) (hL.app v)]
  rw [List.getLast?_append]
  cases hl : v.getLast? with
  | none => simpa using h13
  | some c => simpa using (hv c (List.mem_of_getLast? hl)).2
theorem go_field (b q : Bool) (t : List Int) (f : S42) (h : okF f) (fs : List S42) (hf : fs.length < 64) (i : Nat) (hi : i + 210 ≤ 65536) :
    ofGo 65536 (nI (wrF b q f) ++ t) (nI []) fs i = ofGo 65536 t (nI []) (fs ++ [rawF f]) (i + (wrF b q f).length) := by
  have hlen := wrF_len b q f h
  obtain ⟨hn, hv, htr, hvl⟩ := h
  have h58 : (f.f0.data.toList ++ [58, 32]).getLast? ≠ some 13 := by simp
  have hg := good_name fs f.f0.data.toList hn (by omega)
  have hpl : ∀ c ∈ f.f0.data.toList ++ [58, 32], c ≠ 10 := by
    intro c hc
    rcases List.mem_append.1 hc with hc | hc
    · exact (okName_ne c (hn.2.1 c hc)).1
    · simp at hc; rcases hc with rfl | rfl <;> decide
  have e : nI (wrF b q f) ++ t = nI (f.f0.data.toList ++ [58, 32]) ++ (nI (wrV b q f.f1.data.toList) ++ (nI (eL b) ++ t)) := by
    unfold wrF; simp only [nI_app, List.append_assoc]
  have hlen2 : (wrF b q f).length = (f.f0.data.toList ++ [58, 32]).length + (wrV b q f.f1.data.toList).length + (eL b).length := by
    unfold wrF; simp only [List.length_append]; omega
  rw [e, go_plain 65536 _ _ [] fs i (by push_cast; omega) hpl, List.nil_append]
  have he := eL_len b
  unfold wrV at hlen2 ⊢
  cases q with
  | true =>
    rw [if_pos rfl] at hlen2 ⊢
    rw [go_value 65536 b t _ false _ fs _ (by push_cast; omega) hg h58 hv, line_field fs f hn (by omega)]
    congr 1; omega
  | false =>
    rw [if_neg Bool.false_ne_true] at hlen2 ⊢
    rw [go_plainV 65536 b t _ _ fs _ (by push_cast; omega) hg h58 hv, line_field fs f hn (by omega)]
    congr 1; omega
theorem wrS_len (b q : Bool) (F : List S42) (h : ∀ f ∈ F, okF f) : (wrS b q F).length ≤ 205 * F.length := by
  induction F with
  | nil => simp [wrS]
  | cons f F ih =>
    have := ih (fun g hg => h g (List.mem_cons_of_mem _ hg))
    have h1 := wrF_len b q f (h f List.mem_cons_self)
    unfold wrS at this ⊢
    rw [List.flatMap_cons, List.length_append, List.length_cons]; omega
theorem go_fields (b q : Bool) (t : List Int) (F : List S42) : ∀ (fs : List S42) (i : Nat), (∀ f ∈ F, okF f) → fs.length + F.length ≤ 64 → i + 205 * F.length + 5 ≤ 65536 →
    ofGo 65536 (nI (wrS b q F) ++ t) (nI []) fs i = ofGo 65536 t (nI []) (fs ++ F.map rawF) (i + (wrS b q F).length) := by
  induction F with
  | nil => intro fs i _ _ _; simp [wrS, nI]
  | cons f F ih =>
    intro fs i h hl hi
    rw [List.length_cons] at hl hi
    have h1 := wrF_len b q f (h f List.mem_cons_self)
    have e : nI (wrS b q (f :: F)) ++ t = nI (wrF b q f) ++ (nI (wrS b q F) ++ t) := by
      unfold wrS; rw [List.flatMap_cons, nI_app, List.append_assoc]
    have e2 : (wrS b q (f :: F)).length = (wrF b q f).length + (wrS b q F).length := by
      unfold wrS; rw [List.flatMap_cons, List.length_append]
    rw [e, go_field b q _ f (h f List.mem_cons_self) fs (by omega) i (by omega), ih (fs ++ [rawF f]) _ (fun g hg => h g (List.mem_cons_of_mem _ hg)) (by simp; omega) (by omega), e2]
    simp [Nat.add_assoc]
theorem trim_raw (f : S42) (h : okF f) : (⟨f.f0, trimB (rawF f).f1⟩ : S42) = f := by
  have e : trimB (rawF f).f1 = f.f1 := by
    apply ext_toList
    show trimL (32 :: f.f1.data.toList) = _
    have : trimL (32 :: f.f1.data.toList) = trimL f.f1.data.toList := by unfold trimL; rw [List.dropWhile_cons_of_pos (by decide)]
    rw [this]; exact h.2.2.1
  rw [e]
theorem back_of (b q : Bool) (F : List S42) (body : List UInt8) (h : ∀ f ∈ F, okF f) (hl : F.length ≤ 64) :
    ofR (nI (wrS b q F ++ (eL b ++ body))) 65536 = (F, 0, ((wrS b q F).length : Int) + (eL b).length - 1) := by
  have h1 := wrS_len b q F h
  have h2 := eL_len b
  unfold ofR
  have e : nI (wrS b q F ++ (eL b ++ body)) = nI (wrS b q F) ++ (nI (eL b) ++ nI body) := by rw [nI_app, nI_app]
  rw [e]
  show ofGo 65536 _ (nI []) [] 0 = _
  rw [go_fields b q _ F [] 0 h (by simpa using hl) (by omega), go_last 65536 b _ _ _ (by push_cast; omega)]
  have e3 : trimF ([] ++ F.map rawF) = F := by
    rw [List.nil_append]
    unfold trimF
    rw [List.map_map]
    conv => rhs; rw [← List.map_id F]
    apply List.map_congr_left
    intro f hf
    exact trim_raw f (h f hf)
  rw [e3]
  simp
end Go.Proofs.Ytodidfdfbanliaa.PAll
