/- EntityCapitals, in plain words: capital letters in names, types and encodings change no plan. -/
import Derived.Test.YtodidfdfbanliaaQCapHPlan
import Derived.Test.YtodidfdfbanliaaQCapHGaps
set_option linter.unusedVariables false
set_option linter.unusedSimpArgs false
namespace Go.Proofs.Ytodidfdfbanliaa.PAll
open Go.RowKit Go.Proofs.YtodidfdfbanliaaW.PrintWords Go.Proofs.YtodidfdfbanliaaW.PrintLast Go.Proofs.YtodidfdfbanliaaW.PrintMore
def mixO (o : Nat) (w : List UInt8) (l : List Int) : List UInt8 := w.mapIdx fun i c => mixC l (o + i) c
theorem mixO_zero (w : List UInt8) (l : List Int) : mixL w l = mixO 0 w l := by simp [mixL, mixO]
theorem mixO_app (o : Nat) (a b : List UInt8) (l : List Int) : mixO o (a ++ b) l = mixO o a l ++ mixO (o + a.length) b l := by
  unfold mixO
  rw [List.mapIdx_append]
  congr 1
  have : (fun (i : Nat) (c : UInt8) => mixC l (o + (i + a.length)) c) = fun i c => mixC l (o + a.length + i) c := by
    funext i c; rw [show o + (i + a.length) = o + a.length + i from by omega]
  simp only [this]
theorem mixO_tok (o : Nat) (w : List UInt8) (l : List Int) : tokL (mixO o w l) = tokL w ∧ lowL (mixO o w l) = lowL w := by
  have hlen : (mixO o w l).length = w.length := by simp [mixO]
  refine ⟨?_, ?_⟩
  · unfold tokL
    have e1 : (mixO o w l).isEmpty = w.isEmpty := by cases w <;> simp [mixO]
    have e2 : (mixO o w l).all markC = w.all markC := by
      rw [Bool.eq_iff_iff, List.all_eq_true, List.all_eq_true]
      constructor
      · intro h x hx
        obtain ⟨i, hi, rfl⟩ := List.mem_iff_getElem.1 hx
        have := h ((mixO o w l)[i]'(by omega)) (List.getElem_mem _)
        simp only [mixO, List.getElem_mapIdx] at this
        rw [(mixC_mark l (o + i) w[i]).1] at this
        exact this
      · intro h x hx
        obtain ⟨i, hi, rfl⟩ := List.mem_iff_getElem.1 hx
        have := h (w[i]'(by omega)) (List.getElem_mem _)
        simp only [mixO, List.getElem_mapIdx]
        rw [(mixC_mark l (o + i) (w[i]'(by omega))).1]
        exact this
    rw [e1, e2]
  · apply List.ext_getElem
    · simp [lowL, hlen]
    · intro i h1 h2
      simp only [lowL, List.getElem_map, mixO, List.getElem_mapIdx]
      exact (mixC_mark l (o + i) _).2
theorem mixO_one (o : Nat) (c : UInt8) (l : List Int) (h : ¬ (97 ≤ c ∧ c ≤ 122)) : mixO o [c] l = [c] := by
  simp only [mixO, List.mapIdx_cons, List.mapIdx_nil, mixC]
  rw [if_neg (fun e => h e.2)]
/-- A type with one parameter. -/
theorem type_one (s : ByteArray) (m u n b : List UInt8) (hs : s.data.toList = m ++ (47 :: (u ++ (59 :: 32 :: (n ++ (61 :: b)))))) (hm : tokL m = true) (hu : tokL u = true) (hn : tokL n = true) (hb : tokL b = true) :
    typeGo s = some (⟨(lowL m).toArray⟩, ⟨(lowL u).toArray⟩, [⟨⟨(lowL n).toArray⟩, ⟨b.toArray⟩⟩]) := by
  have h0 : s.data.toList.drop 0 = m ++ ([] ++ (47 :: (u ++ (59 :: 32 :: (n ++ (61 :: b)))))) := by rw [List.drop_zero, hs]; rfl
  have x0 : betP s 0 = some 0 := betP_stay h0 (tok_stop hm _)
  have x1 := tok_gap h0 hm gap0 (fun c hc => by simp at hc; subst hc; decide) (fun c hc => by simp at hc; subst hc; decide)
  have h1 := drop_app (drop_app h0)
  have h1' : s.data.toList.drop (0 + m.length + ([] : List UInt8).length) = 47 :: ([] ++ (u ++ (59 :: 32 :: (n ++ (61 :: b))))) := h1
  have x2 := exp_gap h1' gap0 (tok_stop hu _)
  have h2 := (at_drop h1).2.2
  have h2' : s.data.toList.drop (0 + m.length + ([] : List UInt8).length + 1 + ([] : List UInt8).length) = u ++ ([] ++ (59 :: 32 :: (n ++ (61 :: b)))) := h2
  have x3 := tok_gap h2' hu gap0 (fun c hc => by simp at hc; subst hc; decide) (fun c hc => by simp at hc; subst hc; decide)
  have h3 := drop_app (drop_app h2')
  generalize hk3 : 0 + m.length + ([] : List UInt8).length + 1 + ([] : List UInt8).length + u.length + ([] : List UInt8).length = k3 at *
  have h3' : s.data.toList.drop k3 = 59 :: ([32] ++ (n ++ (61 :: b))) := h3
  have x4 := exp_gap h3' gap1 (tok_stop hn _)
  have h4 := drop_app (at_drop h3').2.2
  have h4' : s.data.toList.drop (k3 + 1 + ([32] : List UInt8).length) = n ++ ([] ++ (61 :: b)) := h4
  have x5 := tok_gap h4' hn gap0 (fun c hc => by simp at hc; subst hc; decide) (fun c hc => by simp at hc; subst hc; decide)
  have h5 := drop_app (drop_app h4')
  generalize hk5 : k3 + 1 + ([32] : List UInt8).length + n.length + ([] : List UInt8).length = k5 at *
  have h5' : s.data.toList.drop k5 = 61 :: ([] ++ (b ++ [])) := by rw [List.append_nil]; exact h5
  have x6 := exp_gap h5' gap0 (tok_stop hb _)
  have h6 := drop_app (at_drop h5').2.2
  have hw : writtenL b = b := by unfold writtenL; rw [if_pos hb]
  have h6' : s.data.toList.drop (k5 + 1 + ([] : List UInt8).length) = writtenL (⟨b.toArray⟩ : ByteArray).data.toList ++ ([] ++ []) := by
    show _ = writtenL b ++ _; rw [hw]; exact h6
  have x7 := val_gap (⟨b.toArray⟩ : ByteArray) h6' gap0 (fun c hc => by cases hc) (fun c hc => by cases hc)
  have h7 := drop_app (drop_app h6')
  have hend := drop_nil h7
  have hk3lt := (at_drop h3').1
  have hpar : parGo (s.size + 1 - k3) s k3 = some [⟨⟨(lowL n).toArray⟩, ⟨b.toArray⟩⟩] := by
    obtain ⟨N, hN⟩ : ∃ N, s.size + 1 - k3 = N + 1 := ⟨s.size - k3, by omega⟩
    rw [hN, parGo, if_pos hk3lt, x4, Option.bind_some, x5, Option.bind_some]
    simp only []
    rw [x6, Option.bind_some, x7, Option.bind_some]
    simp only []
    have : parGo N s (k5 + 1 + ([] : List UInt8).length + (writtenL (⟨b.toArray⟩ : ByteArray).data.toList).length + ([] : List UInt8).length) = some [] := by
      cases N with
      | zero => rfl
      | succ N => rw [parGo, if_neg hend]
    rw [this]; rfl
  unfold typeGo
  rw [x0, Option.bind_some, x1, Option.bind_some]
  simp only []
  rw [x2, Option.bind_some, x3, Option.bind_some]
  simp only []
  rw [hpar]; rfl
theorem codeOf_low (a b : ByteArray) (h : lowL a.data.toList = lowL b.data.toList) : codeOf a = codeOf b := by
  unfold codeOf sameL
  rw [h]
theorem enc_tok (s : ByteArray) (h : tokL s.data.toList = true) : encodeR s = codeOf s := by
  have h0 : s.data.toList.drop 0 = s.data.toList ++ ([] ++ []) := by simp
  have x0 : betP s 0 = some 0 := betP_stay h0 (tok_stop h _)
  have x1 := tok_gap h0 h gap0 (fun c hc => by cases hc) (fun c hc => by cases hc)
  have hne : 0 < s.size := by
    rw [← toList_size]
    unfold tokL at h
    cases hs : s.data.toList with
    | nil => rw [hs] at h; cases h
    | cons _ _ => simp
  unfold encodeR encGo
  rw [x0, Option.bind_some, if_pos hne, x1]
  simp only []
  rw [if_neg (by rw [toList_size]; simp), ba_eta]
def capM (j : Nat) : List UInt8 := [[109, 117, 108, 116, 105, 112, 97, 114, 116], [109, 101, 115, 115, 97, 103, 101], [116, 101, 120, 116], [109, 117, 108, 116, 105, 112, 97, 114, 116]].getD j []
def capU (j : Nat) : List UInt8 := [[109, 105, 120, 101, 100], [114, 102, 99, 56, 50, 50], [112, 108, 97, 105, 110], [120]].getD j []
def capN (j : Nat) : List UInt8 := [[98, 111, 117, 110, 100, 97, 114, 121], [120], [98, 111, 117, 110, 100, 97, 114, 121], [98, 111, 114, 100, 101, 114]].getD j []
def capK (j : Nat) : ByteArray := ⟨(capM j ++ (47 :: (capU j ++ (59 :: 32 :: (capN j ++ [61]))))).toArray⟩
def capC (i : Nat) : ByteArray := [(⟨#[98, 97, 115, 101, 54, 52]⟩ : ByteArray), ⟨#[113, 117, 111, 116, 101, 100, 45, 112, 114, 105, 110, 116, 97, 98, 108, 101]⟩, ⟨#[55, 98, 105, 116]⟩, ⟨#[98, 105, 110, 97, 114, 121]⟩, ⟨#[120, 45, 111, 116, 104, 101, 114]⟩].getD i ⟨#[]⟩
def capE (i : Nat) : Int := [(1 : Int), 2, 0, 0, 3].getD i 3
def capR (j i : Nat) (b : ByteArray) : Int × Int × ByteArray × Int :=
  if i = 4 then (3, 1, ⟨#[]⟩, 0) else if j = 0 then (capE i, 4, b, 0) else if j = 1 then (capE i, 3, ⟨#[]⟩, 0) else if j = 2 then (capE i, 2, ⟨#[]⟩, 0) else (0, 0, ⟨#[]⟩, 32)
def lettersB (b : ByteArray) : Prop := ∀ c ∈ b.data.toList, 97 ≤ c ∧ c ≤ 122
theorem letter_ok (c : UInt8) (h : 97 ≤ c ∧ c ≤ 122) : markC c = true ∧ okI (c.toNat : Int) = true ∧ c ≠ 32 ∧ lowC c = c := by
  have := by_bytes (p := fun i c => 97 ≤ c ∧ c ≤ 122 → markC c = true ∧ okI i = true ∧ c ≠ 32 ∧ lowC c = c) (by decide +kernel) c
  exact this h
theorem letters_tok (b : ByteArray) (h : lettersB b) (h1 : 1 ≤ b.size) : tokL b.data.toList = true := by
  unfold tokL
  have e : b.data.toList ≠ [] := by intro e; rw [← toList_size, e] at h1; simp at h1
  rw [Bool.and_eq_true]
  refine ⟨by cases hb : b.data.toList with | nil => exact absurd hb e | cons _ _ => rfl, ?_⟩
  rw [List.all_eq_true]
  exact fun c hc => (letter_ok c (h c hc)).1
theorem letters_valid (b : ByteArray) (h : lettersB b) (h1 : 1 ≤ b.size) (h2 : b.size ≤ 70) : validR b = true := by
  unfold validR endV
  have hlt : b.size - 1 < b.size := by omega
  have hl := (letter_ok (b[b.size - 1]'hlt) (h _ (by rw [getElem_toList]; exact List.getElem_mem _))).2.2.1
  have e : bt b ((b.size - 1 : Nat) : Int) = ((b[b.size - 1]'hlt).toNat : Int) := bt_nat b _ hlt
  have e2 : ((b[b.size - 1]'hlt).toNat : Int) ≠ 32 := fun x => hl ((u8_ofInt _ 32).1 x)
  rw [e]
  simp only [Bool.and_eq_true, List.all_eq_true, decide_eq_true_eq, bne_iff_ne, ne_eq]
  exact ⟨fun c hc => (letter_ok c (h c hc)).2.1, ⟨h1, h2⟩, e2⟩
theorem cap_tabs (j : Nat) (hj : j < 4) : tokL (capM j) = true ∧ tokL (capU j) = true ∧ tokL (capN j) = true ∧ lowL (capM j) = capM j ∧ lowL (capU j) = capU j ∧ lowL (capN j) = capN j := by
  obtain rfl | rfl | rfl | rfl : j = 0 ∨ j = 1 ∨ j = 2 ∨ j = 3 := by omega
  all_goals decide +kernel
theorem cap_codes (i : Nat) (hi : i < 5) : tokL (capC i).data.toList = true ∧ codeOf (capC i) = capE i := by
  obtain rfl | rfl | rfl | rfl | rfl : i = 0 ∨ i = 1 ∨ i = 2 ∨ i = 3 ∨ i = 4 := by omega
  all_goals decide +kernel
/-- The plan of two fields whose names and values are these but for capital letters. -/
theorem cap_plan (N1 V1 N2 V2 b : ByteArray) (j i : Nat) (hj : j < 4) (hi : i < 5) (m u n : List UInt8) (h1 : lowL N1.data.toList = typName.data.toList) (h2 : lowL N2.data.toList = encName.data.toList)
    (hV : V1.data.toList = m ++ (47 :: (u ++ (59 :: 32 :: (n ++ (61 :: b.data.toList)))))) (hm : tokL m = true ∧ lowL m = capM j) (hu : tokL u = true ∧ lowL u = capU j) (hn : tokL n = true ∧ lowL n = capN j)
    (hc : tokL V2.data.toList = true ∧ lowL V2.data.toList = lowL (capC i).data.toList) (hb : lettersB b) (b1 : 1 ≤ b.size) (b2 : b.size ≤ 70) :
    planR [⟨N1, V1⟩, ⟨N2, V2⟩] = capR j i b := by
  have g1 : getL [⟨N1, V1⟩, ⟨N2, V2⟩] encName = (V2, true) := by
    unfold getL isName sameL
    simp only [List.find?]
    rw [h1, h2]
    rfl
  have g2 : getL [⟨N1, V1⟩, ⟨N2, V2⟩] typName = (V1, true) := by
    unfold getL isName sameL
    simp only [List.find?]
    rw [h1]
    rfl
  have he : encodeR V2 = capE i := by
    rw [enc_tok V2 hc.1, codeOf_low V2 (capC i) hc.2, (cap_codes i hi).2]
  have ht : typeR V1 = (⟨(capM j).toArray⟩, ⟨(capU j).toArray⟩, [⟨⟨(capN j).toArray⟩, b⟩], true) := by
    unfold typeR
    rw [type_one V1 m u n b.data.toList hV hm.1 hu.1 hn.1 (letters_tok b hb b1), hm.2, hu.2, hn.2, ba_eta]
  have hv := letters_valid b hb b1 b2
  unfold planR
  rw [g1, g2, he, ht]
  simp only []
  obtain rfl | rfl | rfl | rfl : j = 0 ∨ j = 1 ∨ j = 2 ∨ j = 3 := by omega
  · have hp : (paramR [⟨⟨(capN 0).toArray⟩, b⟩] borName).1 = b := rfl
    have e1 : ¬ ((⟨(capM 0).toArray⟩ : ByteArray).toList = message ∧ (⟨(capU 0).toArray⟩ : ByteArray).toList = rfc) := by rw [ByteArray.toList_eq, ByteArray.toList_eq]; decide
    have e2 : (⟨(capM 0).toArray⟩ : ByteArray).toList = multi := by rw [ByteArray.toList_eq]; rfl
    rw [if_neg e1, if_pos e2, hp, if_pos hv]
    obtain rfl | rfl | rfl | rfl | rfl : i = 0 ∨ i = 1 ∨ i = 2 ∨ i = 3 ∨ i = 4 := by omega
    all_goals rfl
  · have e1 : ((⟨(capM 1).toArray⟩ : ByteArray).toList = message ∧ (⟨(capU 1).toArray⟩ : ByteArray).toList = rfc) := by rw [ByteArray.toList_eq, ByteArray.toList_eq]; exact ⟨rfl, rfl⟩
    rw [if_pos e1]
    obtain rfl | rfl | rfl | rfl | rfl : i = 0 ∨ i = 1 ∨ i = 2 ∨ i = 3 ∨ i = 4 := by omega
    all_goals rfl
  · have e1 : ¬ ((⟨(capM 2).toArray⟩ : ByteArray).toList = message ∧ (⟨(capU 2).toArray⟩ : ByteArray).toList = rfc) := by rw [ByteArray.toList_eq, ByteArray.toList_eq]; decide
    have e2 : ¬ (⟨(capM 2).toArray⟩ : ByteArray).toList = multi := by rw [ByteArray.toList_eq]; decide
    rw [if_neg e1, if_neg e2]
    obtain rfl | rfl | rfl | rfl | rfl : i = 0 ∨ i = 1 ∨ i = 2 ∨ i = 3 ∨ i = 4 := by omega
    all_goals rfl
  · have hp : (paramR [⟨⟨(capN 3).toArray⟩, b⟩] borName).1 = ⟨#[]⟩ := rfl
    have e1 : ¬ ((⟨(capM 3).toArray⟩ : ByteArray).toList = message ∧ (⟨(capU 3).toArray⟩ : ByteArray).toList = rfc) := by rw [ByteArray.toList_eq, ByteArray.toList_eq]; decide
    have e2 : (⟨(capM 3).toArray⟩ : ByteArray).toList = multi := by rw [ByteArray.toList_eq]; rfl
    rw [if_neg e1, if_pos e2, hp, valid_none, if_neg Bool.false_ne_true]
    obtain rfl | rfl | rfl | rfl | rfl : i = 0 ∨ i = 1 ∨ i = 2 ∨ i = 3 ∨ i = 4 := by omega
    all_goals rfl
theorem mix_low (a : ByteArray) (l : List Int) : lowL (mixB a l).data.toList = lowL a.data.toList := (mixL_tok a.data.toList l).2.1
theorem mix_tokB (a : ByteArray) (l : List Int) : tokL (mixB a l).data.toList = tokL a.data.toList := (mixL_tok a.data.toList l).1
theorem typ_low : lowL typName.data.toList = typName.data.toList := by decide +kernel
theorem enc_low : lowL encName.data.toList = encName.data.toList := by decide +kernel
/-- The plan as it stands, and with some capital letters. -/
theorem cap_both (b : ByteArray) (j i : Nat) (hj : j < 4) (hi : i < 5) (l : List Int) (hb : lettersB b) (b1 : 1 ≤ b.size) (b2 : b.size ≤ 70) :
    planR [⟨TypName, capK j ++ b⟩, ⟨EncName, capC i⟩] = capR j i b ∧ planR [⟨mixB typName l, mixB (capK j) l ++ b⟩, ⟨mixB encName l, mixB (capC i) l⟩] = capR j i b := by
  obtain ⟨tm, tu, tn, lm, lu, ln⟩ := cap_tabs j hj
  obtain ⟨tc, _⟩ := cap_codes i hi
  refine ⟨?_, ?_⟩
  · refine cap_plan _ _ _ _ b j i hj hi (capM j) (capU j) (capN j) (by decide +kernel) (by decide +kernel) ?_ ⟨tm, lm⟩ ⟨tu, lu⟩ ⟨tn, ln⟩ ⟨tc, rfl⟩ hb b1 b2
    simp [capK]
  · have hk : (mixB (capK j) l).data.toList = mixO 0 (capM j) l ++ (47 :: (mixO ((capM j).length + 1) (capU j) l ++ (59 :: 32 :: (mixO ((capM j).length + 1 + (capU j).length + 2) (capN j) l ++ [61])))) := by
      show mixL (capM j ++ (47 :: (capU j ++ (59 :: 32 :: (capN j ++ [61]))))) l = _
      have e : capM j ++ (47 :: (capU j ++ (59 :: 32 :: (capN j ++ [61])))) = capM j ++ ([47] ++ (capU j ++ ([59] ++ ([32] ++ (capN j ++ [61]))))) := by simp
      rw [e, mixO_zero, mixO_app, mixO_app, mixO_app, mixO_app, mixO_app, mixO_app, mixO_one _ 47 l (by decide), mixO_one _ 59 l (by decide), mixO_one _ 32 l (by decide), mixO_one _ 61 l (by decide)]
      simp only [List.length_cons, List.length_nil, Nat.zero_add, List.cons_append, List.nil_append]
    refine cap_plan _ _ _ _ b j i hj hi (mixO 0 (capM j) l) (mixO ((capM j).length + 1) (capU j) l) (mixO ((capM j).length + 1 + (capU j).length + 2) (capN j) l) ?_ ?_ (by rw [ByteArray.data_append, Array.toList_append, hk]; simp) ⟨(mixO_tok _ _ l).1.trans tm, (mixO_tok _ _ l).2.trans lm⟩ ⟨(mixO_tok _ _ l).1.trans tu, (mixO_tok _ _ l).2.trans lu⟩ ⟨(mixO_tok _ _ l).1.trans tn, (mixO_tok _ _ l).2.trans ln⟩ ⟨?_, ?_⟩ hb b1 b2
    · exact (mix_low typName l).trans typ_low
    · exact (mix_low encName l).trans enc_low
    · exact (mix_tokB (capC i) l).trans tc
    · exact mix_low (capC i) l
end Go.Proofs.Ytodidfdfbanliaa.PAll
