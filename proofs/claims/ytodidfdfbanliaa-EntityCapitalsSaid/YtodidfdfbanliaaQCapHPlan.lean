/- What both sides' Plan comes to: the same. -/
import Derived.Lib.Hide
import Derived.Test.YtodidfdfbanliaaQCapHSemP
import Derived.Test.YtodidfdfbanliaaQCapPAllx0
import Derived.Test.YtodidfdfbanliaaQCapFLow
import Derived.Test.YtodidfdfbanliaaQCapHGet
import Derived.Test.YtodidfdfbanliaaQCapHSem1
import Derived.Test.YtodidfdfbanliaaQCapFParamM
import Derived.Test.YtodidfdfbanliaaQCapFValidM
import Derived.Test.YtodidfdfbanliaaQCapFPlanM
import Derived.Test.YtodidfdfbanliaaQCapHIndexByte
set_option linter.unusedVariables false
set_option linter.unusedSimpArgs false
namespace Go.Proofs.Ytodidfdfbanliaa.PAll
open Go.RowKit Go.Proofs.YtodidfdfbanliaaW.PrintWords Go.Proofs.YtodidfdfbanliaaW.PrintLast Go.Proofs.YtodidfdfbanliaaW.PrintMore
def isPar (n : ByteArray) (p : S42) : Bool := p.f0.data.toList == lowL n.data.toList
def paramR (l : List S42) (n : ByteArray) : ByteArray × Bool := match l.find? (isPar n) with | some p => (p.f1, true) | none => (⟨#[]⟩, false)
theorem rdT_at (l : List S42) (k : Nat) (h : k < l.length) : rd_T42 l (k : Int) = l[k] := by
  simp [rd_T42, List.getD_eq_getElem?_getD, List.getElem?_eq_getElem h]
theorem paramR_step (l : List S42) (n : ByteArray) (i : Nat) (h : i < l.length) : paramR (l.drop i) n = if isPar n l[i] = true then (l[i].f1, true) else paramR (l.drop (i + 1)) n := by
  unfold paramR
  rw [List.drop_eq_getElem_cons h, List.find?_cons]
  cases isPar n l[i] <;> simp
theorem isPar_iff (n : ByteArray) (p : S42) : (p.f0.toList = (lowB n).toList) ↔ isPar n p = true := by
  rw [ByteArray.toList_eq, ByteArray.toList_eq, show (lowB n).data.toList = lowL n.data.toList from rfl]
  unfold isPar
  rw [beq_iff_eq]
theorem paramM_l0_ev (l : List S42) (n : ByteArray) (hl : l.length ≤ 9223372036854775807) (d : Nat) : ∀ i : Nat, i ≤ l.length → l.length - i = d →
    Ev (fun k => mimetype_Param.l0 k (lowB n) l (l.length : Int) (i : Int)) (paramR (l.drop i) n) := by
  induction d with
  | zero =>
    intro i hi hd
    rw [List.drop_of_length_le (by omega)]
    refine Ev.step (f := fun _ => some (⟨#[]⟩, false)) (fun k => ?_) (Ev.now _)
    rw [mimetype_Param.l0, if_neg (by omega)]
  | succ d ih =>
    intro i hi hd
    have hlt : i < l.length := by omega
    have hi2 := ih (i + 1) (by omega) (by omega)
    have hW := Lib.hid (wrap_succ i l.length hlt hl)
    rw [paramR_step l n i hlt]
    refine Ev.step (f := fun k => if l[i].f0.toList = (lowB n).toList then some (l[i].f1, true) else mimetype_Param.l0 k (lowB n) l (l.length : Int) ((i + 1 : Nat) : Int)) (fun k => ?_) ?_
    · rw [mimetype_Param.l0, if_pos (by omega), if_pos (by omega), if_pos (by omega), rdT_at l i hlt, hW.out]
    · by_cases h : isPar n l[i] = true
      · rw [if_pos h]; exact Ev.congr (fun k => if_pos ((isPar_iff n l[i]).2 h)) (Ev.now _)
      · rw [if_neg h]; exact Ev.congr (fun k => if_neg (fun e => h ((isPar_iff n l[i]).1 e))) hi2
theorem paramM_ev (m u : ByteArray) (l : List S42) (n : ByteArray) (hl : l.length ≤ 9223372036854775807) (hn : n.size < 140737488355328) : Ev (fun k => mimetype_Param.f k m u l n) (paramR l n) := by
  have h := paramM_l0_ev l n hl l.length 0 (by omega) (by omega)
  rw [List.drop_zero] at h
  refine Ev.congr (fun k => ?_) h
  unfold mimetype_Param.f mimetype_Lower.f
  rw [if_pos hn, Option.bind_some]; rfl
def moreLit : ByteArray := ⟨#[39, 40, 41, 43, 95, 44, 45, 46, 47, 58, 61, 63, 32]⟩
def okI (c : Int) : Bool := (decide (Go.bits .or .u8 c 32 ≥ 97) && decide (Go.bits .or .u8 c 32 ≤ 122)) || (decide (c ≥ 48) && decide (c ≤ 57)) || decide (Lib.indexByte moreLit.data.toList c.toNat.toUInt8 ≥ 0)
def endV (s : ByteArray) : Bool := decide (1 ≤ s.size) && decide (s.size ≤ 70) && (bt s ((s.size - 1 : Nat) : Int) != 32)
theorem end_eq (s : ByteArray) : (if (s.size : Int) ≥ 1 then (if (s.size : Int) ≤ 70 then (if 0 ≤ (wrap64 ((s.size : Int) - 1)) then (if (wrap64 ((s.size : Int) - 1)) < (s.size : Int) then (some ((bt s (wrap64 ((s.size : Int) - 1))) != 32)) else (none)) else (none)) else (some false)) else (some false)) = some (endV s) := by
  unfold endV
  by_cases h1 : 1 ≤ s.size
  · rw [if_pos (by omega)]
    by_cases h2 : s.size ≤ 70
    · have hw : wrap64 ((s.size : Int) - 1) = ((s.size - 1 : Nat) : Int) := by unfold wrap64; omega
      rw [if_pos (by omega), hw, if_pos (by omega), if_pos (by omega)]
      simp [h1, h2]
    · rw [if_neg (by omega)]; simp [h2]
  · rw [if_neg (by omega)]; simp [h1]
def validR (s : ByteArray) : Bool := (s.data.toList.all fun c => okI (c.toNat : Int)) && endV s
theorem ifs_ok (c : Int) (K : Option Bool) : (if (Go.bits .or .u8 c 32) ≥ 97 then (if (Go.bits .or .u8 c 32) ≤ 122 then K else (if c ≥ 48 then (if c ≤ 57 then K else ((strings_IndexByte.f moreLit c).bind fun t471 => (if t471 ≥ 0 then K else (some false)))) else ((strings_IndexByte.f moreLit c).bind fun t472 => (if t472 ≥ 0 then K else (some false))))) else (if c ≥ 48 then (if c ≤ 57 then K else ((strings_IndexByte.f moreLit c).bind fun t473 => (if t473 ≥ 0 then K else (some false)))) else ((strings_IndexByte.f moreLit c).bind fun t474 => (if t474 ≥ 0 then K else (some false))))) = if okI c = true then K else some false := by
  unfold strings_IndexByte.f okI
  simp only [Option.bind_some]
  by_cases h1 : Go.bits .or .u8 c 32 ≥ 97 <;> by_cases h2 : Go.bits .or .u8 c 32 ≤ 122 <;> by_cases h3 : c ≥ 48 <;> by_cases h4 : c ≤ 57 <;> by_cases h5 : Lib.indexByte moreLit.data.toList c.toNat.toUInt8 ≥ 0 <;> simp [h1, h2, h3, h4, h5]
theorem validM_l0_ev (s : ByteArray) (hs : s.size ≤ 9223372036854775807) (d : Nat) : ∀ i : Nat, i ≤ s.size → s.size - i = d →
    Ev (fun k => parts_Valid.l0 k s (s.size : Int) (i : Int)) ((s.data.toList.drop i).all (fun c => okI (c.toNat : Int)) && endV s) := by
  induction d with
  | zero =>
    intro i hi hd
    rw [List.drop_of_length_le (by simp; omega)]
    refine Ev.step (f := fun _ => some (endV s)) (fun k => ?_) (by simpa using Ev.now _)
    rw [parts_Valid.l0, if_neg (by omega)]
    exact end_eq s
  | succ d ih =>
    intro i hi hd
    have hlt : i < s.size := by omega
    have hi2 := ih (i + 1) (by omega) (by omega)
    have hW := Lib.hid (wrap_succ i s.size hlt hs)
    refine Ev.step (f := fun k => if okI (s[i].toNat : Int) = true then parts_Valid.l0 k s (s.size : Int) ((i + 1 : Nat) : Int) else some false) (fun k => ?_) ?_
    · rw [parts_Valid.l0, if_pos (by omega), if_pos (by omega), if_pos (by omega), bt_nat s i hlt, hW.out]
      exact ifs_ok _ _
    · rw [drop_cons_at s i hlt, List.all_cons]
      by_cases h : okI (s[i].toNat : Int) = true
      · refine Ev.congr (fun k => if_pos h) ?_
        rw [h, Bool.true_and]; exact hi2
      · refine Ev.congr (fun k => if_neg h) ?_
        have h2 : okI (s[i].toNat : Int) = false := by simpa using h
        rw [h2]; simpa using Ev.now false
theorem validM_ev (s : ByteArray) (hs : s.size ≤ 9223372036854775807) : Ev (fun k => parts_Valid.f k s) (validR s) := by
  have h := validM_l0_ev s hs s.size 0 (by omega) (by omega)
  rw [List.drop_zero] at h
  exact h
def encName : ByteArray := ⟨#[99, 111, 110, 116, 101, 110, 116, 45, 116, 114, 97, 110, 115, 102, 101, 114, 45, 101, 110, 99, 111, 100, 105, 110, 103]⟩
def typName : ByteArray := ⟨#[99, 111, 110, 116, 101, 110, 116, 45, 116, 121, 112, 101]⟩
def EncName : ByteArray := ⟨#[67, 111, 110, 116, 101, 110, 116, 45, 84, 114, 97, 110, 115, 102, 101, 114, 45, 69, 110, 99, 111, 100, 105, 110, 103]⟩
def TypName : ByteArray := ⟨#[67, 111, 110, 116, 101, 110, 116, 45, 84, 121, 112, 101]⟩
def borName : ByteArray := ⟨#[98, 111, 117, 110, 100, 97, 114, 121]⟩
def multi : List UInt8 := [109, 117, 108, 116, 105, 112, 97, 114, 116]
def message : List UInt8 := [109, 101, 115, 115, 97, 103, 101]
def rfc : List UInt8 := [114, 102, 99, 56, 50, 50]
/-- What fields say of their body. -/
def planR (F : List S42) : Int × Int × ByteArray × Int :=
  let e := encodeR (getL F encName).1
  let t := typeR (getL F typName).1
  let b := (paramR t.2.2.1 borName).1
  if e = 3 then (3, 1, ⟨#[]⟩, 0)
  else if t.1.toList = message ∧ t.2.1.toList = rfc then (e, 3, ⟨#[]⟩, 0)
  else if t.1.toList = multi then (if validR b = true then (e, 4, b, 0) else (0, 0, ⟨#[]⟩, 32))
  else (e, 2, ⟨#[]⟩, 0)
theorem getL_mem (F : List S42) (a : ByteArray) (B : Nat) (h : ∀ f ∈ F, f.f1.size ≤ B) : (getL F a).1.size ≤ B := by
  unfold getL
  cases hf : F.find? (isName a) with
  | none => exact Nat.zero_le _
  | some f => exact h f (List.mem_of_find?_eq_some hf)
theorem parGo_len2 (N : Nat) : ∀ (s : ByteArray) (k : Nat) (r : List S42), parGo N s k = some r → r.length ≤ N := by
  induction N with
  | zero => intro s k r h; simp [parGo] at h; subst h; simp
  | succ N ih =>
    intro s k r h
    rw [parGo] at h
    split at h
    · obtain ⟨c, _, h⟩ := Option.bind_eq_some_iff.1 h
      obtain ⟨nm, _, h⟩ := Option.bind_eq_some_iff.1 h
      obtain ⟨f, _, h⟩ := Option.bind_eq_some_iff.1 h
      obtain ⟨v, _, h⟩ := Option.bind_eq_some_iff.1 h
      obtain ⟨q, hq, rfl⟩ := Option.map_eq_some_iff.1 h
      have := ih _ _ _ hq
      simp; omega
    · injection h with h; subst h; simp
theorem quoGo_len2 (n : Nat) : ∀ (s : ByteArray) (k : Nat) (acc : List UInt8) (r : List UInt8 × Nat), acc.length ≤ k → quoGo n s k acc = some r → r.1.length ≤ s.size := by
  induction n with
  | zero => intro s k acc r ha h; simp [quoGo] at h
  | succ n ih =>
    intro s k acc r ha h
    rw [quoGo] at h
    split at h
    · split at h
      · obtain ⟨j, hj, rfl⟩ := Option.map_eq_some_iff.1 h
        simp only []; omega
      · split at h
        · split at h
          · exact ih _ _ _ _ (by simp; omega) h
          · cases h
        · exact ih _ _ _ _ (by simp; omega) h
    · cases h
theorem parGo_vals (N : Nat) : ∀ (s : ByteArray) (k : Nat) (r : List S42), parGo N s k = some r → ∀ p ∈ r, p.f1.size ≤ s.size := by
  induction N with
  | zero => intro s k r h; simp [parGo] at h; subst h; simp
  | succ N ih =>
    intro s k r h
    rw [parGo] at h
    split at h
    · obtain ⟨c, _, h⟩ := Option.bind_eq_some_iff.1 h
      obtain ⟨nm, hn, h⟩ := Option.bind_eq_some_iff.1 h
      obtain ⟨f, _, h⟩ := Option.bind_eq_some_iff.1 h
      obtain ⟨v, hv, h⟩ := Option.bind_eq_some_iff.1 h
      obtain ⟨q, hq, rfl⟩ := Option.map_eq_some_iff.1 h
      intro p hp
      rcases List.mem_cons.1 hp with rfl | hp
      · show v.1.size ≤ s.size
        unfold valGo at hv
        split at hv
        · split at hv
          · obtain ⟨j, hj, rfl⟩ := Option.map_eq_some_iff.1 hv
            exact quoGo_len2 _ _ _ _ _ (by simp) hj
          · exact tokGo_size hv
        · cases hv
      · exact ih _ _ _ hq p hp
    · injection h with h; subst h; simp
theorem typeR_pars (s : ByteArray) : (typeR s).2.2.1.length ≤ s.size + 1 ∧ ∀ p ∈ (typeR s).2.2.1, p.f1.size ≤ s.size := by
  unfold typeR
  cases h : typeGo s with
  | none => simp
  | some r =>
    unfold typeGo at h
    obtain ⟨a, _, h⟩ := Option.bind_eq_some_iff.1 h
    obtain ⟨m, _, h⟩ := Option.bind_eq_some_iff.1 h
    obtain ⟨c, _, h⟩ := Option.bind_eq_some_iff.1 h
    obtain ⟨u, _, h⟩ := Option.bind_eq_some_iff.1 h
    obtain ⟨q, hq, rfl⟩ := Option.map_eq_some_iff.1 h
    exact ⟨by have := parGo_len2 _ _ _ _ hq; simp only []; omega, parGo_vals _ _ _ _ hq⟩
theorem paramR_size (l : List S42) (n : ByteArray) (B : Nat) (h : ∀ p ∈ l, p.f1.size ≤ B) : (paramR l n).1.size ≤ B := by
  unfold paramR
  cases hf : l.find? (isPar n) with
  | none => exact Nat.zero_le _
  | some f => exact h f (List.mem_of_find?_eq_some hf)
theorem plan_ev (F : List S42) (h0 : ∀ f ∈ F, f.f0.size ≤ 9223372036854775807) (h1 : ∀ f ∈ F, f.f1.size ≤ 4398046511104) : Ev (fun k => entity_Plan.f k F) (planR F) := by
  have hS : smallNames F = true := by simp only [smallNames, List.all_eq_true, decide_eq_true_eq]; exact h0
  have hg : ∀ a, header_Get.f F a = some (getL F a) := fun a => by unfold header_Get.f; rw [if_pos hS]
  have hx := getL_mem F encName _ h1
  have hy := getL_mem F typName _ h1
  have hE : mimetype_Encoding.f (getL F encName).1 = some (encodeR (getL F encName).1) := by unfold mimetype_Encoding.f; rw [if_pos (by omega)]
  have hT : mimetype_Type.f (getL F typName).1 = some (typeR (getL F typName).1) := by unfold mimetype_Type.f; rw [if_pos (by omega)]
  obtain ⟨hl, hv⟩ := typeR_pars (getL F typName).1
  unfold entity_Plan.f planR
  rw [show (⟨#[99, 111, 110, 116, 101, 110, 116, 45, 116, 114, 97, 110, 115, 102, 101, 114, 45, 101, 110, 99, 111, 100, 105, 110, 103]⟩ : ByteArray) = encName from rfl, show (⟨#[99, 111, 110, 116, 101, 110, 116, 45, 116, 121, 112, 101]⟩ : ByteArray) = typName from rfl, show (⟨#[98, 111, 117, 110, 100, 97, 114, 121]⟩ : ByteArray) = borName from rfl, hg, hg]
  simp only [Option.bind_some, hE, hT]
  generalize encodeR (getL F encName).1 = e
  generalize typeR (getL F typName).1 = t at *
  by_cases h3 : e = 3
  · subst h3; exact Ev.now _
  · rw [if_neg h3]
    refine Ev.congr (fun k => if_neg h3) ?_
    by_cases hm : t.1.toList = message ∧ t.2.1.toList = rfc
    · rw [if_pos hm]
      exact Ev.congr (fun k => if_pos (by rw [Bool.and_eq_true, beq_iff_eq, beq_iff_eq]; exact hm)) (Ev.now _)
    · rw [if_neg hm]
      refine Ev.congr (fun k => if_neg (by rw [Bool.and_eq_true, beq_iff_eq, beq_iff_eq]; exact hm)) ?_
      by_cases hu : t.1.toList = multi
      · rw [if_pos hu]
        refine Ev.congr (fun k => if_pos hu) ?_
        refine Ev.bind (f := fun k bt489 => _) (paramM_ev t.1 t.2.1 t.2.2.1 borName (by omega) (by decide)) ?_
        refine Ev.bind (f := fun k t491 => _) (validM_ev _ (by have := paramR_size t.2.2.1 borName _ hv; omega)) ?_
        by_cases hvv : validR (paramR t.2.2.1 borName).1 = true
        · rw [if_pos hvv, if_pos hvv]; exact Ev.now _
        · rw [if_neg hvv, if_neg hvv]; exact Ev.now _
      · rw [if_neg hu]
        exact Ev.congr (fun k => if_neg hu) (Ev.now _)
theorem valid_none : validR (⟨#[]⟩ : ByteArray) = false := by decide +kernel
end Go.Proofs.Ytodidfdfbanliaa.PAll
