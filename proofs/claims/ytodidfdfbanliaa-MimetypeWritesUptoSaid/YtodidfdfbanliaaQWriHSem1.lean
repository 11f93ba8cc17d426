/- What the printed functions on tokens and capital letters come to, in plain words. -/
import Derived.IntWalk
import Derived.Test.YtodidfdfbanliaaQWriHPure
import Derived.Test.YtodidfdfbanliaaQWriPAllx0
import Derived.Test.YtodidfdfbanliaaQWriFLow
set_option linter.unusedVariables false
set_option linter.unusedSimpArgs false
namespace Go.Proofs.Ytodidfdfbanliaa.PAll
open Go.RowKit Go.Proofs.YtodidfdfbanliaaW.PrintWords Go.Proofs.YtodidfdfbanliaaW.PrintLast Go.Proofs.YtodidfdfbanliaaW.PrintMore
theorem bt_nat (s : ByteArray) (i : Nat) (h : i < s.size) : bt s (i : Int) = ((s[i]'h).toNat : Int) := by
  rw [← bt_at s (i : Int) (by omega)]; rfl
theorem drop_cons_at (s : ByteArray) (i : Nat) (h : i < s.size) : s.data.toList.drop i = s[i] :: s.data.toList.drop (i + 1) := by
  rw [List.drop_eq_getElem_cons (by simpa using h)]; rfl
theorem wrap_succ (i n : Nat) (h : i < n) (hn : n ≤ 9223372036854775807) : wrap64 ((i : Int) + 1) = ((i + 1 : Nat) : Int) := by
  unfold wrap64; omega
theorem u8_ofInt (c d : UInt8) : ((c.toNat : Int) = (d.toNat : Int)) ↔ c = d := by
  rw [← UInt8.toNat_inj]; omega
/-- A statement on bytes, tried at each. -/
theorem by_bytes {p : Int → UInt8 → Prop} (h : ∀ c : Fin 256, p (c.val : Int) (UInt8.ofNat c.val)) (c : UInt8) : p (c.toNat : Int) c := by
  have := h ⟨c.toNat, c.toNat_lt⟩
  simpa using this
theorem mimetype_mark.is (c : UInt8) : mimetype_mark.f (c.toNat : Int) = some (markC c) :=
  by_bytes (p := fun i c => mimetype_mark.f i = some (markC c)) (by decide +kernel) c
theorem winkleref12_Low.is (c : UInt8) : winkleref12_Low.f (c.toNat : Int) = some ((lowC c).toNat : Int) :=
  by_bytes (p := fun i c => winkleref12_Low.f i = some ((lowC c).toNat : Int)) (by decide +kernel) c
theorem header_low.is (c : UInt8) : header_low.f (c.toNat : Int) = some ((lowC c).toNat : Int) :=
  by_bytes (p := fun i c => header_low.f i = some ((lowC c).toNat : Int)) (by decide +kernel) c
theorem winkleref13_mark.ev (c : UInt8) : Ev (fun k => winkleref13_mark.f k (c.toNat : Int)) (markC c) :=
  Ev.of (winkleref13_mark.mono _) (k := 17) (by_bytes (p := fun i c => winkleref13_mark.f 17 i = some (markC c)) (by decide +kernel) c)
theorem mimetype_Token.l0_ev (s : ByteArray) (hs : s.size ≤ 140737488355328) (d : Nat) : ∀ i : Nat, i ≤ s.size → s.size - i = d →
    Ev (fun k => mimetype_Token.l0 k s (s.size : Int) (i : Int)) ((s.data.toList.drop i).all markC && s.toList != []) := by
  induction d with
  | zero =>
    intro i hi hd
    refine Ev.step (f := fun _ => some ((s.data.toList.drop i).all markC && s.toList != [])) (fun k => ?_) (Ev.now _)
    simp only [mimetype_Token.l0]; rw [if_neg (by omega)]
    rw [List.drop_of_length_le (by simp; omega)]; simp
  | succ d ih =>
    intro i hi hd
    have hlt : i < s.size := by omega
    refine Ev.step (f := fun k => if markC s[i] = true then mimetype_Token.l0 k s (s.size : Int) ((i + 1 : Nat) : Int) else some false) (fun k => ?_) ?_
    · simp only [mimetype_Token.l0]
      rw [if_pos (by omega), if_pos (by omega), if_pos (by omega), bt_nat s i hlt, mimetype_mark.is, wrap_succ i s.size hlt (by omega)]
      rfl
    · rw [drop_cons_at s i hlt, List.all_cons]
      by_cases h : markC s[i] = true
      · simp only [h, if_true, Bool.true_and]; exact ih (i + 1) (by omega) (by omega)
      · simp only [h, if_false, Bool.false_and]
        simpa using Ev.now false
theorem bne_nil_tok (l : List UInt8) : (l.all markC && l != []) = tokL l := by
  unfold tokL; cases l <;> simp
theorem mimetype_Token.ev (s : ByteArray) (hs : s.size ≤ 140737488355328) : Ev (fun k => mimetype_Token.f k s) (tokL s.data.toList) := by
  have h := mimetype_Token.l0_ev s hs s.size 0 (by omega) (by omega)
  rw [List.drop_zero, ByteArray.toList_eq, bne_nil_tok] at h
  exact h
theorem winkleref13_Token.l0_ev (s : ByteArray) (hs : s.size ≤ 140737488355328) (d : Nat) : ∀ i : Nat, i ≤ s.size → s.size - i = d →
    Ev (fun k => winkleref13_Token.l0 k s (i : Int)) ((s.data.toList.drop i).all markC && decide ((s.size : Int) > 0)) := by
  induction d with
  | zero =>
    intro i hi hd
    refine Ev.step (f := fun _ => some ((s.data.toList.drop i).all markC && decide ((s.size : Int) > 0))) (fun k => ?_) (Ev.now _)
    simp only [winkleref13_Token.l0]; rw [if_neg (by omega)]
    rw [List.drop_of_length_le (by simp; omega)]; simp
  | succ d ih =>
    intro i hi hd
    have hlt : i < s.size := by omega
    refine Ev.step (f := fun k => (winkleref13_mark.f k (s[i].toNat : Int)).bind fun t => if t = true then winkleref13_Token.l0 k s ((i + 1 : Nat) : Int) else some false) (fun k => ?_) ?_
    · simp only [winkleref13_Token.l0]
      rw [if_pos (by omega), if_pos (by omega), bt_nat s i hlt, wrap_succ i s.size hlt (by omega)]
    · refine Ev.bind (f := fun k t => if t = true then winkleref13_Token.l0 k s ((i + 1 : Nat) : Int) else some false) (winkleref13_mark.ev s[i]) ?_
      rw [drop_cons_at s i hlt, List.all_cons]
      by_cases h : markC s[i] = true
      · simp only [h, if_true, Bool.true_and]; exact ih (i + 1) (by omega) (by omega)
      · simp only [h, if_false, Bool.false_and]
        simpa using Ev.now false
theorem winkleref13_Token.ev (s : ByteArray) (hs : s.size ≤ 140737488355328) : Ev (fun k => winkleref13_Token.f k s) (tokL s.data.toList) := by
  have h := winkleref13_Token.l0_ev s hs s.size 0 (by omega) (by omega)
  have e : ((s.data.toList.drop 0).all markC && decide ((s.size : Int) > 0)) = tokL s.data.toList := by
    rw [List.drop_zero, ← bne_nil_tok]; congr 1
    rw [← toList_size s]
    cases s.data.toList <;> simp
  rw [e] at h
  exact h
theorem nums_low_snoc (s : ByteArray) (i : Nat) (h : i < s.size) : (lowL (s.data.toList.take (i + 1))).map (fun c => (c.toNat : Int)) = (lowL (s.data.toList.take i)).map (fun c => (c.toNat : Int)) ++ [((lowC s[i]).toNat : Int)] := by
  rw [lowL_snoc s i h]; simp
theorem strOfNums_map (l : List UInt8) : strOfNums (l.map fun c => (c.toNat : Int)) = ⟨l.toArray⟩ := by
  unfold strOfNums
  simp [Function.comp_def]
theorem winkleref13_Lower.l0_ev (s : ByteArray) (hs : s.size < 140737488355328) (d : Nat) : ∀ i : Nat, i ≤ s.size → s.size - i = d →
    Ev (fun k => winkleref13_Lower.l0 k s ((lowL (s.data.toList.take i)).map fun c => (c.toNat : Int)) (i : Int)) (lowB s) := by
  induction d with
  | zero =>
    intro i hi hd
    refine Ev.step (f := fun _ => some (lowB s)) (fun k => ?_) (Ev.now _)
    simp only [winkleref13_Lower.l0]; rw [if_neg (by omega)]
    rw [List.take_of_length_le (by simp; omega), strOfNums_map]; rfl
  | succ d ih =>
    intro i hi hd
    have hlt : i < s.size := by omega
    refine Ev.step (f := fun k => winkleref13_Lower.l0 k s ((lowL (s.data.toList.take (i + 1))).map fun c => (c.toNat : Int)) ((i + 1 : Nat) : Int)) (fun k => ?_) (ih (i + 1) (by omega) (by omega))
    simp only [winkleref13_Lower.l0]
    rw [if_pos (by omega), if_pos (by omega), bt_nat s i hlt, wrap_succ i s.size hlt (by omega), winkleref12_Low.is, Option.bind_some, if_pos (by simp [lowL]; omega), nums_low_snoc s i hlt]
theorem u8_low_or (c d : UInt8) : (((lowC c).toNat : Int) = ((lowC d).toNat : Int)) ↔ lowC c = lowC d := u8_ofInt _ _
/-- Are two texts alike but for capital letters? -/
def sameL (a b : List UInt8) : Bool := lowL a == lowL b
theorem header_Same.l0_ev (a b : ByteArray) (ha : a.size ≤ 9223372036854775807) (hb : a.size = b.size) (d : Nat) : ∀ i : Nat, i ≤ a.size → a.size - i = d →
    Ev (fun k => header_Same.l0 k a b (a.size : Int) (i : Int)) (sameL (a.data.toList.drop i) (b.data.toList.drop i)) := by
  induction d with
  | zero =>
    intro i hi hd
    refine Ev.step (f := fun _ => some (sameL (a.data.toList.drop i) (b.data.toList.drop i))) (fun k => ?_) (Ev.now _)
    simp only [header_Same.l0]; rw [if_neg (by omega)]
    rw [List.drop_of_length_le (by simp; omega), List.drop_of_length_le (by simp; omega)]; rfl
  | succ d ih =>
    intro i hi hd
    have hlt : i < a.size := by omega
    have hlt2 : i < b.size := by omega
    refine Ev.step (f := fun k => if ((lowC a[i]).toNat : Int) = ((lowC b[i]).toNat : Int) then header_Same.l0 k a b (a.size : Int) ((i + 1 : Nat) : Int) else some false) (fun k => ?_) ?_
    · simp only [header_Same.l0]
      rw [if_pos (by omega), if_pos (by omega), if_pos (by omega), bt_nat a i hlt, bt_nat b i hlt2, header_low.is, header_low.is, wrap_succ i a.size hlt (by omega), Option.bind_some, if_pos (by omega), Option.bind_some]
    · rw [drop_cons_at a i hlt, drop_cons_at b i hlt2]
      simp only [u8_low_or]
      by_cases h : lowC a[i] = lowC b[i]
      · have e : sameL (a[i] :: a.data.toList.drop (i + 1)) (b[i] :: b.data.toList.drop (i + 1)) = sameL (a.data.toList.drop (i + 1)) (b.data.toList.drop (i + 1)) := by simp [sameL, lowL, h]
        simp only [h, if_true, e]
        exact ih (i + 1) (by omega) (by omega)
      · have e : sameL (a[i] :: a.data.toList.drop (i + 1)) (b[i] :: b.data.toList.drop (i + 1)) = false := by simp [sameL, lowL, h]
        simp only [h, if_false, e]
        exact Ev.now false
theorem sameL_len (a b : ByteArray) (h : a.size ≠ b.size) : sameL a.data.toList b.data.toList = false := by
  simp only [sameL, beq_eq_false_iff_ne]
  intro e
  have := congrArg List.length e
  simp [lowL] at this
  omega
theorem header_Same.ev (a b : ByteArray) (ha : a.size ≤ 9223372036854775807) : Ev (fun k => header_Same.f k a b) (sameL a.data.toList b.data.toList) := by
  unfold header_Same.f
  by_cases h : a.size = b.size
  · refine Ev.congr (f := fun k => header_Same.l0 k a b (a.size : Int) 0) (fun k => if_pos (by omega)) ?_
    simpa using header_Same.l0_ev a b ha h a.size 0 (by omega) (by omega)
  · rw [sameL_len a b h]
    exact Ev.congr (f := fun k => some false) (fun k => if_neg (by omega)) (Ev.now false)
theorem winkleref13_Lower.ev (s : ByteArray) (hs : s.size < 140737488355328) : Ev (fun k => winkleref13_Lower.f k s) (lowB s) :=
  winkleref13_Lower.l0_ev s hs s.size 0 (by omega) (by omega)
end Go.Proofs.Ytodidfdfbanliaa.PAll
