/- HeaderBack: what the printed function comes to. -/
import Derived.Test.YtodidfdfbanliaaQBckHBackP
import Derived.Test.YtodidfdfbanliaaQBckFBack
import Derived.Test.YtodidfdfbanliaaQBckHSem2
import Derived.Test.YtodidfdfbanliaaQBckHSame
set_option linter.unusedVariables false
set_option linter.unusedSimpArgs false
namespace Go.Proofs.Ytodidfdfbanliaa.PAll
open Go.RowKit Go.Proofs.YtodidfdfbanliaaW.PrintWords Go.Proofs.YtodidfdfbanliaaW.PrintLast Go.Proofs.YtodidfdfbanliaaW.PrintMore
theorem u8_58 (c : UInt8) : ((c.toNat : Int) = 58) ↔ c = 58 := u8_ofInt c 58
theorem u8_10 (c : UInt8) : ((c.toNat : Int) = 10) ↔ c = 10 := u8_ofInt c 10
theorem u8_13 (c : UInt8) : ((c.toNat : Int) = 13) ↔ c = 13 := u8_ofInt c 13
theorem rd_nI (u : List UInt8) (i : Nat) (h : i < u.length) : rd (nI u) (i : Int) = ((u[i]'h).toNat : Int) := by
  unfold rd nI
  rw [Int.toNat_natCast, List.getD_eq_getElem?_getD, List.getElem?_map, List.getElem?_eq_getElem h]; rfl
theorem nI_snoc (u : List UInt8) (c : UInt8) : nI u ++ [(c.toNat : Int)] = nI (u ++ [c]) := by rw [nI_app]; rfl
def nmC (c : UInt8) : UInt8 := 33 + c % 94
theorem nmC_is (c : UInt8) : ((33 + Int.tmod (c.toNat : Int) 94) % 256 = ((nmC c).toNat : Int)) ∧ (nmC c = 58 ∨ okName (nmC c) = true) :=
  by_bytes (p := fun i c => ((33 + Int.tmod i 94) % 256 = ((nmC c).toNat : Int)) ∧ (nmC c = 58 ∨ okName (nmC c) = true)) (by decide +kernel) c
theorem named_l0 (u : List UInt8) (hu : u.length ≤ 9223372036854775807) (d : Nat) : ∀ (i : Nat) (n : List UInt8), i ≤ u.length → i ≤ 20 → min u.length 20 - i = d → n ≠ [] → (∀ c ∈ n, okName c = true) → n.length ≤ 1 + i →
    ∃ N : ByteArray, okN N.data.toList ∧ Ev (fun k => winklelaw12_named.l0 k (nI u) (nI n) (i : Int)) N := by
  induction d with
  | zero =>
    intro i n hi hi2 hd h0 h1 h2
    refine ⟨⟨n.toArray⟩, ⟨by simpa using h0, by simpa using h1, by show n.length ≤ 21; omega⟩, ?_⟩
    have hj : Ev (fun k => winklelaw12_named.j1 k (nI u) (nI n) (i : Int) false) ⟨n.toArray⟩ := by
      refine Ev.step (f := fun _ => some (⟨n.toArray⟩ : ByteArray)) (fun k => ?_) (Ev.now _)
      simp only [winklelaw12_named.j1]; rw [if_neg (by decide), strOf_nI]
    refine Ev.step (f := fun k => winklelaw12_named.j1 k (nI u) (nI n) (i : Int) false) (fun k => ?_) hj
    simp only [winklelaw12_named.l0]
    rw [nI_len]
    by_cases h : (i : Int) < (u.length : Int)
    · rw [if_pos h, show decide ((i : Int) < 20) = false from decide_eq_false (by omega)]
    · rw [if_neg h]
  | succ d ih =>
    intro i n hi hi2 hd h0 h1 h2
    have hlt : i < u.length := by omega
    obtain ⟨e1, e2⟩ := nmC_is (u[i]'hlt)
    have hw : wrap64 ((i : Int) + 1) = ((i + 1 : Nat) : Int) := by unfold wrap64; omega
    by_cases h58 : nmC (u[i]'hlt) = 58
    · obtain ⟨N, hN, hE⟩ := ih (i + 1) n (by omega) (by omega) (by omega) h0 h1 (by omega)
      refine ⟨N, hN, ?_⟩
      refine Ev.step (f := fun k => winklelaw12_named.j1 k (nI u) (nI n) (i : Int) true) (fun k => ?_) (Ev.step (f := fun k => winklelaw12_named.l0 k (nI u) (nI n) ((i + 1 : Nat) : Int)) (fun k => ?_) hE)
      · simp only [winklelaw12_named.l0]; rw [nI_len, if_pos (by omega), show decide ((i : Int) < 20) = true from decide_eq_true (by omega)]
      · simp only [winklelaw12_named.j1]
        rw [if_pos trivial, if_pos (by omega), nI_len, if_pos (by omega), rd_nI u i hlt, e1, if_pos ((u8_58 _).2 h58), hw]
    · have hok : okName (nmC (u[i]'hlt)) = true := e2.resolve_left h58
      obtain ⟨N, hN, hE⟩ := ih (i + 1) (n ++ [nmC (u[i]'hlt)]) (by omega) (by omega) (by omega) (by simp) (fun c hc => by
        rcases List.mem_append.1 hc with hc | hc
        · exact h1 c hc
        · rw [List.mem_singleton] at hc; rw [hc]; exact hok) (by simp; omega)
      refine ⟨N, hN, ?_⟩
      refine Ev.step (f := fun k => winklelaw12_named.j1 k (nI u) (nI n) (i : Int) true) (fun k => ?_) (Ev.step (f := fun k => winklelaw12_named.l0 k (nI u) (nI (n ++ [nmC (u[i]'hlt)])) ((i + 1 : Nat) : Int)) (fun k => ?_) hE)
      · simp only [winklelaw12_named.l0]; rw [nI_len, if_pos (by omega), show decide ((i : Int) < 20) = true from decide_eq_true (by omega)]
      · simp only [winklelaw12_named.j1]
        rw [if_pos trivial, if_pos (by omega), nI_len, if_pos (by omega), rd_nI u i hlt, e1, if_neg (fun e => h58 ((u8_58 _).1 e)), nI_len, if_pos (by omega), hw, nI_snoc]
theorem named_ev (u : List UInt8) (hu : u.length ≤ 9223372036854775807) : ∃ N : ByteArray, okN N.data.toList ∧ Ev (fun k => winklelaw12_named.f k (nI u)) N :=
  named_l0 u hu _ 0 [120] (Nat.zero_le _) (by decide) rfl (by simp) (by decide) (by simp)
theorem dropWhile_idem (l : List UInt8) : (l.dropWhile isBl).dropWhile isBl = l.dropWhile isBl := by
  induction l with
  | nil => rfl
  | cons c t ih =>
    by_cases h : isBl c = true
    · rw [List.dropWhile_cons_of_pos h, ih]
    · rw [List.dropWhile_cons_of_neg h, List.dropWhile_cons_of_neg h]
theorem rtrim_pre (l : List UInt8) : rtrimL l <+: l := by
  unfold rtrimL
  have := List.dropWhile_suffix (l := l.reverse) isBl
  obtain ⟨t, ht⟩ := this
  exact ⟨t.reverse, by rw [← List.reverse_append, ht, List.reverse_reverse]⟩
theorem trim_idem (l : List UInt8) : trimL (trimL l) = trimL l := by
  have e : (trimL l).dropWhile isBl = trimL l := by
    unfold trimL
    obtain ⟨t, ht⟩ := rtrim_pre (l.dropWhile isBl)
    generalize hr : rtrimL (l.dropWhile isBl) = r at *
    cases r with
    | nil => rfl
    | cons c r =>
      have hd := dropWhile_idem l
      rw [← ht] at hd
      by_cases hc : isBl c = true
      · exfalso
        rw [List.cons_append, List.dropWhile_cons_of_pos hc] at hd
        have := congrArg List.length hd
        have h2 := (List.dropWhile_suffix (l := r ++ t) isBl).length_le
        simp at this h2; omega
      · rw [List.dropWhile_cons_of_neg hc]
  show rtrimL ((trimL l).dropWhile isBl) = _
  rw [e]
  show rtrimL (rtrimL (l.dropWhile isBl)) = rtrimL (l.dropWhile isBl)
  unfold rtrimL
  rw [List.reverse_reverse, dropWhile_idem]
theorem trim_sub (l : List UInt8) : trimL l <:+: l := (rtrim_pre _).isInfix.trans (List.dropWhile_suffix _).isInfix
theorem trim_okV (v : List UInt8) (h : ∀ c ∈ v, c ≠ 10 ∧ c ≠ 13) (hl : v.length ≤ 60) : okV (trimB ⟨v.toArray⟩).data.toList := by
  show okV (trimL v)
  have hs := trim_sub v
  exact ⟨fun c hc => h c (hs.subset hc), trim_idem v, Nat.le_trans hs.length_le hl⟩
theorem valued_l0 (u : List UInt8) (hu : u.length ≤ 9223372036854775807) (d : Nat) : ∀ (i : Nat) (n : List UInt8), i ≤ u.length → i ≤ 60 → min u.length 60 - i = d → (∀ c ∈ n, c ≠ 10 ∧ c ≠ 13) → n.length ≤ i →
    ∃ N : ByteArray, okV N.data.toList ∧ Ev (fun k => winklelaw12_valued.l0 k (nI u) (nI n) (i : Int)) N := by
  induction d with
  | zero =>
    intro i n hi hi2 hd h1 h2
    refine ⟨_, trim_okV n h1 (by omega), ?_⟩
    have hj : Ev (fun k => winklelaw12_valued.j1 k (nI u) (nI n) (i : Int) false) (trimB ⟨n.toArray⟩) := by
      refine Ev.step (f := fun k => (winkleref12_Trim.f k (⟨n.toArray⟩ : ByteArray)).bind fun t168 => some t168) (fun k => ?_) (Ev.bind (winkleref12_Trim.ev _ _ rfl (by show n.length ≤ _; omega)) (Ev.now _))
      simp only [winklelaw12_valued.j1]; rw [if_neg (by decide), strOf_nI]
    refine Ev.step (f := fun k => winklelaw12_valued.j1 k (nI u) (nI n) (i : Int) false) (fun k => ?_) hj
    simp only [winklelaw12_valued.l0]
    rw [nI_len]
    by_cases h : (i : Int) < (u.length : Int)
    · rw [if_pos h, show decide ((i : Int) < 60) = false from decide_eq_false (by omega)]
    · rw [if_neg h]
  | succ d ih =>
    intro i n hi hi2 hd h1 h2
    have hlt : i < u.length := by omega
    have hw : wrap64 ((i : Int) + 1) = ((i + 1 : Nat) : Int) := by unfold wrap64; omega
    by_cases h10 : u[i]'hlt = 10 ∨ u[i]'hlt = 13
    · obtain ⟨N, hN, hE⟩ := ih (i + 1) n (by omega) (by omega) (by omega) h1 (by omega)
      refine ⟨N, hN, ?_⟩
      refine Ev.step (f := fun k => winklelaw12_valued.j1 k (nI u) (nI n) (i : Int) true) (fun k => ?_) (Ev.step (f := fun k => winklelaw12_valued.l0 k (nI u) (nI n) ((i + 1 : Nat) : Int)) (fun k => ?_) hE)
      · simp only [winklelaw12_valued.l0]; rw [nI_len, if_pos (by omega), show decide ((i : Int) < 60) = true from decide_eq_true (by omega)]
      · simp only [winklelaw12_valued.j1]
        rw [if_pos trivial, if_pos (by omega), nI_len, if_pos (by omega), rd_nI u i hlt, hw]
        by_cases ha : u[i]'hlt = 10
        · rw [if_pos ((u8_10 _).2 ha)]
        · rw [if_neg (fun e => ha ((u8_10 _).1 e)), if_pos ((u8_13 _).2 (h10.resolve_left ha))]
    · obtain ⟨ha, hb⟩ := not_or.1 h10
      obtain ⟨N, hN, hE⟩ := ih (i + 1) (n ++ [u[i]'hlt]) (by omega) (by omega) (by omega) (fun c hc => by
        rcases List.mem_append.1 hc with hc | hc
        · exact h1 c hc
        · rw [List.mem_singleton] at hc; rw [hc]; exact ⟨ha, hb⟩) (by simp; omega)
      refine ⟨N, hN, ?_⟩
      refine Ev.step (f := fun k => winklelaw12_valued.j1 k (nI u) (nI n) (i : Int) true) (fun k => ?_) (Ev.step (f := fun k => winklelaw12_valued.l0 k (nI u) (nI (n ++ [u[i]'hlt])) ((i + 1 : Nat) : Int)) (fun k => ?_) hE)
      · simp only [winklelaw12_valued.l0]; rw [nI_len, if_pos (by omega), show decide ((i : Int) < 60) = true from decide_eq_true (by omega)]
      · simp only [winklelaw12_valued.j1]
        rw [if_pos trivial, if_pos (by omega), nI_len, if_pos (by omega), rd_nI u i hlt, if_neg (fun e => ha ((u8_10 _).1 e)), if_neg (fun e => hb ((u8_13 _).1 e)), nI_len, if_pos (by omega), hw, nI_snoc]
theorem valued_ev (u : List UInt8) (hu : u.length ≤ 9223372036854775807) : ∃ N : ByteArray, okV N.data.toList ∧ Ev (fun k => winklelaw12_valued.f k (nI u)) N :=
  valued_l0 u hu _ 0 [] (Nat.zero_le _) (by decide) rfl (by simp) (by simp)
def flagB (v : ByteArray) (j : Nat) : Bool := decide (0 < j) && !isBl (v.data.toList.getD (j - 1) 0)
theorem isBl_i32 (c : UInt8) : isBl c = (decide ((c.toNat : Int) = 32) || decide ((c.toNat : Int) = 9)) :=
  by_bytes (p := fun i c => isBl c = (decide (i = 32) || decide (i = 9))) (by decide +kernel) c
theorem ext_one (v : ByteArray) (j : Nat) (h : j < v.size) : (v.extract j (j + 1)).data.toList = [v[j]'h] := by
  rw [extract_toList, getElem_toList, List.take_succ_eq_append_getElem (by simpa using h), List.drop_left' (by simp; omega)]
section
variable (x0 x1 : List (List Int)) (x2 : Int) (x7 x8 : ByteArray) (x9 : List S42) (x10 : Int) (v n w : ByteArray) (b : Bool) (r : Bool)
theorem back_l1 (he : x7 = ⟨(eL b).toArray⟩) (hv : v.size ≤ 60) (hn : n.size ≤ 21) (h8 : x8.size ≤ 20000) (d : Nat) : ∀ (j : Nat) (acc : ByteArray), j ≤ v.size → v.size - j = d → acc.size ≤ 3 * j →
    Ev (fun k => winklelaw12_HeaderBack.l0 k x0 x1 x2 x7 (x8 ++ (((n ++ (⟨#[58, 32]⟩ : ByteArray)) ++ ⟨(acc.data.toList ++ brkL (eL b) (flagB v j) (v.data.toList.drop j)).toArray⟩) ++ x7)) x9 (wrap64 (x10 + 1))) r →
    Ev (fun k => winklelaw12_HeaderBack.l1 k x0 x1 x2 x7 x8 x9 x10 v acc (j : Int) n w) r := by
  have he2 : x7.size ≤ 2 := by rw [he]; exact (eL_len b).2
  induction d with
  | zero =>
    intro j acc hj hd ha hE
    refine Ev.step (fun k => ?_) hE
    simp only [winklelaw12_HeaderBack.l1]
    have e : (⟨(acc.data.toList ++ brkL (eL b) (flagB v j) (v.data.toList.drop j)).toArray⟩ : ByteArray) = acc := by
      rw [List.drop_of_length_le (by simp; omega)]
      apply ext_toList; simp [brkL]
    have hs : (⟨#[58, 32]⟩ : ByteArray).size = 2 := rfl
    rw [e, if_neg (by omega), if_pos (by omega), if_pos (by rw [ByteArray.size_append]; omega), if_pos (by rw [ByteArray.size_append, ByteArray.size_append]; omega), if_pos (by rw [ByteArray.size_append, ByteArray.size_append, ByteArray.size_append]; omega)]
  | succ d ih =>
    intro j acc hj hd ha hE
    have hlt : j < v.size := by omega
    have hdr := drop_cons_at v j hlt
    have hS : wrap64 ((j : Int) + 1) = ((j + 1 : Nat) : Int) := by unfold wrap64; omega
    have hbt := bt_nat v j hlt
    have hone := ext_one v j hlt
    have hos : (v.extract j (j + 1)).size = 1 := by rw [← toList_size, hone]; rfl
    have hfl : flagB v (j + 1) = !isBl (v[j]'hlt) := by
      unfold flagB
      rw [show decide (0 < j + 1) = true from decide_eq_true (by omega), Bool.true_and, Nat.add_sub_cancel, List.getD_eq_getElem?_getD, List.getElem?_eq_getElem (by simpa using hlt)]; rfl
    rw [hdr] at hE
    have hbl := isBl_i32 (v[j]'hlt)
    -- what goes on, without a break
    have plain : ¬ (flagB v j = true ∧ isBl (v[j]'hlt) = true) → Ev (fun k => winklelaw12_HeaderBack.l1 k x0 x1 x2 x7 x8 x9 x10 v (acc ++ v.extract j (j + 1)) ((j + 1 : Nat) : Int) n w) r := by
      intro hf
      refine ih (j + 1) _ (by omega) (by omega) (by rw [ByteArray.size_append]; omega) ?_
      rw [brkL, if_neg hf, List.nil_append] at hE
      have e : (acc ++ v.extract j (j + 1)).data.toList ++ brkL (eL b) (flagB v (j + 1)) (v.data.toList.drop (j + 1)) = acc.data.toList ++ v[j] :: brkL (eL b) (!isBl v[j]) (v.data.toList.drop (j + 1)) := by
        rw [ByteArray.data_append, Array.toList_append, hone, hfl]; simp
      rw [e]; exact hE
    by_cases h0 : j = 0
    · have hf : ¬ (flagB v j = true ∧ isBl (v[j]'hlt) = true) := by
        have e : flagB v j = false := by simp [flagB, h0]
        rw [e]; simp
      refine Ev.step (fun k => ?_) (plain hf)
      simp only [winklelaw12_HeaderBack.l1]
      rw [if_pos (by omega), if_neg (by omega), if_pos (by omega), hS, Int.toNat_natCast, Int.toNat_natCast, if_pos (by omega), if_pos (by omega), if_pos (by omega)]
    · have hP : wrap64 ((j : Int) - 1) = ((j - 1 : Nat) : Int) := by unfold wrap64; omega
      have hltp : j - 1 < v.size := by omega
      have hbtp := bt_nat v (j - 1) hltp
      have hblp := isBl_i32 (v[j - 1]'hltp)
      have hfj : flagB v j = !isBl (v[j - 1]'hltp) := by
        unfold flagB
        rw [show decide (0 < j) = true from decide_eq_true (by omega), Bool.true_and, List.getD_eq_getElem?_getD, List.getElem?_eq_getElem (by simpa using hltp)]; rfl
      by_cases hc : isBl (v[j]'hlt) = true
      · by_cases hp : isBl (v[j - 1]'hltp) = true
        · have hf : ¬ (flagB v j = true ∧ isBl (v[j]'hlt) = true) := by rw [hfj, hp]; simp
          refine Ev.step (fun k => ?_) (plain hf)
          simp only [winklelaw12_HeaderBack.l1]
          rw [if_pos (by omega), if_pos (by omega), if_pos (by omega), hbt, hP, hbtp, hS, Int.toNat_natCast, Int.toNat_natCast]
          rw [hc] at hbl
          rw [hp] at hblp
          simp only [if_pos (show (0 : Int) ≤ ((j - 1 : Nat) : Int) by omega), if_pos (show ((j - 1 : Nat) : Int) < (v.size : Int) by omega), if_pos (show (j : Int) ≤ ((j + 1 : Nat) : Int) by omega), if_pos (show ((j + 1 : Nat) : Int) ≤ (v.size : Int) by omega), if_pos (show acc.size + (v.extract j (j + 1)).size ≤ 9223372036854775807 by omega)]
          by_cases c1 : ((v[j]'hlt).toNat : Int) = 32
          · rw [if_pos c1]
            by_cases c2 : ((v[j - 1]'hltp).toNat : Int) = 32
            · rw [if_pos c2]
            · rw [if_neg c2, if_pos (by simpa [c2] using hblp.symm)]
          · rw [if_neg c1, if_pos (by simpa [c1] using hbl.symm)]
            by_cases c2 : ((v[j - 1]'hltp).toNat : Int) = 32
            · rw [if_pos c2]
            · rw [if_neg c2, if_pos (by simpa [c2] using hblp.symm)]
        · have hpf : isBl (v[j - 1]'hltp) = false := by simpa using hp
          have hf : flagB v j = true ∧ isBl (v[j]'hlt) = true := ⟨by rw [hfj, hpf]; rfl, hc⟩
          have go : Ev (fun k => winklelaw12_HeaderBack.l1 k x0 x1 x2 x7 x8 x9 x10 v ((acc ++ x7) ++ v.extract j (j + 1)) ((j + 1 : Nat) : Int) n w) r := by
            refine ih (j + 1) _ (by omega) (by omega) (by rw [ByteArray.size_append, ByteArray.size_append]; omega) ?_
            rw [brkL, if_pos hf] at hE
            have e : ((acc ++ x7) ++ v.extract j (j + 1)).data.toList ++ brkL (eL b) (flagB v (j + 1)) (v.data.toList.drop (j + 1)) = acc.data.toList ++ (eL b ++ v[j] :: brkL (eL b) (!isBl v[j]) (v.data.toList.drop (j + 1))) := by
              rw [ByteArray.data_append, Array.toList_append, hone, ByteArray.data_append, Array.toList_append, hfl, he]; simp
            rw [e]; exact hE
          refine Ev.step (fun k => ?_) go
          simp only [winklelaw12_HeaderBack.l1]
          rw [if_pos (by omega), if_pos (by omega), if_pos (by omega), hbt, hP, hbtp, hS, Int.toNat_natCast, Int.toNat_natCast]
          rw [hc] at hbl
          rw [hpf] at hblp
          have h2 := hblp.symm
          simp only [Bool.or_eq_false_iff, decide_eq_false_iff_not] at h2
          simp only [if_pos (show (0 : Int) ≤ ((j - 1 : Nat) : Int) by omega), if_pos (show ((j - 1 : Nat) : Int) < (v.size : Int) by omega), if_pos (show (j : Int) ≤ ((j + 1 : Nat) : Int) by omega), if_pos (show ((j + 1 : Nat) : Int) ≤ (v.size : Int) by omega), if_neg h2.1, if_neg h2.2, if_pos (show acc.size + x7.size ≤ 9223372036854775807 by omega), if_pos (show (acc ++ x7).size + (v.extract j (j + 1)).size ≤ 9223372036854775807 by rw [ByteArray.size_append]; omega)]
          by_cases c1 : ((v[j]'hlt).toNat : Int) = 32
          · rw [if_pos c1]
          · rw [if_neg c1, if_pos (by simpa [c1] using hbl.symm)]
      · have hcf : isBl (v[j]'hlt) = false := by simpa using hc
        have hf : ¬ (flagB v j = true ∧ isBl (v[j]'hlt) = true) := by rw [hcf]; simp
        refine Ev.step (fun k => ?_) (plain hf)
        rw [hcf] at hbl
        have h2 := hbl.symm
        simp only [Bool.or_eq_false_iff, decide_eq_false_iff_not] at h2
        simp only [winklelaw12_HeaderBack.l1]
        rw [if_pos (by omega), if_pos (by omega), if_pos (by omega), hbt, if_neg h2.1, if_neg h2.2, hS, Int.toNat_natCast, Int.toNat_natCast, if_pos (by omega), if_pos (by omega), if_pos (by omega)]
end
def bB (l : List UInt8) : ByteArray := ⟨l.toArray⟩
theorem bB_size (l : List UInt8) : (bB l).size = l.length := rfl
theorem bB_app (a b : List UInt8) : bB a ++ bB b = bB (a ++ b) := by apply ext_toList; simp [bB]
theorem bB_of (a : ByteArray) : a = bB a.data.toList := by apply ext_toList; simp [bB]
theorem bytesOf_bB (l : List UInt8) : bytesOf (bB l) = nI l := by simp [bytesOf, bB, nI]
theorem row_at (U : List (List UInt8)) (i : Nat) (h : i < U.length) : rd_L3 (U.map nI) (i : Int) = nI (U[i]'h) := by
  unfold rd_L3
  rw [Int.toNat_natCast, List.getD_eq_getElem?_getD, List.getElem?_map, List.getElem?_eq_getElem h]; rfl
theorem wrF_bB (b : Bool) (q : Bool) (f : S42) : ((f.f0 ++ (⟨#[58, 32]⟩ : ByteArray)) ++ bB (wrV b q f.f1.data.toList)) ++ bB (eL b) = bB (wrF b q f) := by
  apply ext_toList; simp [bB, wrF]
theorem wrS_snoc (b q : Bool) (F : List S42) (f : S42) : wrS b q (F ++ [f]) = wrS b q F ++ wrF b q f := by simp [wrS]
section
variable (U V : List (List UInt8)) (x2 : Int) (b q : Bool)
theorem back_end (F : List S42) (i : Nat) (h : ∀ f ∈ F, okF f) (hl : F.length ≤ 64) :
    Ev (fun k => winklelaw12_HeaderBack.j2 k (U.map nI) (V.map nI) x2 (bB (eL b)) (bB (wrS b q F)) F (i : Int) false) true := by
  have h1 := wrS_len b q F h
  have h2 := eL_len b
  have hb : (⟨#[98, 111, 100, 121]⟩ : ByteArray) = bB [98, 111, 100, 121] := rfl
  have hw : header_Whole.f (bytesOf ((bB (wrS b q F) ++ bB (eL b)) ++ (⟨#[98, 111, 100, 121]⟩ : ByteArray))) 65536 = some (F, ((wrS b q F).length : Int) + (eL b).length, 0, 0) := by
    rw [hb, bB_app, bB_app, bytesOf_bB, List.append_assoc]
    unfold header_Whole.f wholeR
    rw [if_neg (by decide), back_of b q F _ h hl]
    simp only []
    rw [if_pos (by rw [nI_len]; simp only [List.length_append, List.length_cons, List.length_nil]; omega)]
    congr 2; congr 1; omega
  have hz : wrap64 (((bB (wrS b q F)).size : Int) + ((bB (eL b)).size : Int)) = ((wrS b q F).length : Int) + (eL b).length := by rw [bB_size, bB_size]; unfold wrap64; omega
  refine Ev.step (f := fun k => (winkleref12_Fields.f k F F).bind fun t178 => if t178 = true then some true else some false) (fun k => ?_) (Ev.bind (fields_same F (by omega)) (by simpa using Ev.now true))
  simp only [winklelaw12_HeaderBack.j2]
  rw [if_neg (by decide), if_pos (by rw [bB_size, bB_size]; omega), if_pos (by rw [ByteArray.size_append, bB_size, bB_size]; omega), hw, Option.bind_some]
  simp only [hz, if_true, winklelaw12_awake.f, Option.bind_some]
theorem back_l0 (hq : (Int.tmod x2 4 ≥ 2) ↔ q = true) (hU : ∀ u ∈ U, u.length ≤ 9223372036854775807) (hV : ∀ u ∈ V, u.length ≤ 9223372036854775807) (d : Nat) : ∀ (i : Nat) (F : List S42), i ≤ U.length → i ≤ V.length → i ≤ 64 → min (min U.length V.length) 64 - i = d → F.length = i → (∀ f ∈ F, okF f) →
    Ev (fun k => winklelaw12_HeaderBack.l0 k (U.map nI) (V.map nI) x2 (bB (eL b)) (bB (wrS b q F)) F (i : Int)) true := by
  induction d with
  | zero =>
    intro i F h1 h2 h3 hd hF h
    have hend := back_end U V x2 b q F i h (by omega)
    refine Ev.step (fun k => ?_) hend
    simp only [winklelaw12_HeaderBack.l0, List.length_map]
    by_cases c1 : (i : Int) < (U.length : Int)
    · rw [if_pos c1]
      by_cases c2 : (i : Int) < (V.length : Int)
      · rw [if_pos c2, show decide ((i : Int) < 64) = false from decide_eq_false (by omega)]
      · rw [if_neg c2]
    · rw [if_neg c1]
  | succ d ih =>
    intro i F h1 h2 h3 hd hF h
    have hu : i < U.length := by omega
    have hv : i < V.length := by omega
    obtain ⟨N, hN, eN⟩ := named_ev (U[i]'hu) (hU _ (List.getElem_mem hu))
    obtain ⟨W, hW, eW⟩ := valued_ev (V[i]'hv) (hV _ (List.getElem_mem hv))
    have hw : wrap64 ((i : Int) + 1) = ((i + 1 : Nat) : Int) := by unfold wrap64; omega
    have hok : okF ⟨N, W⟩ := ⟨hN, hW⟩
    have hall : ∀ f ∈ F ++ [(⟨N, W⟩ : S42)], okF f := fun f hf => by
      rcases List.mem_append.1 hf with hf | hf
      · exact h f hf
      · rw [List.mem_singleton] at hf; rw [hf]; exact hok
    have next := ih (i + 1) (F ++ [⟨N, W⟩]) (by omega) (by omega) (by omega) (by omega) (by simp [hF]) hall
    have hs := wrS_len b q F h
    have hNs : N.size ≤ 21 := by rw [← toList_size]; exact hN.2.2
    have hWs : W.size ≤ 60 := by rw [← toList_size]; exact hW.2.2
    have he := eL_len b
    have h64 : (wrS b q F).length ≤ 20000 := by omega
    have hj : Ev (fun k => winklelaw12_HeaderBack.j2 k (U.map nI) (V.map nI) x2 (bB (eL b)) (bB (wrS b q F)) F (i : Int) true) true := by
      refine Ev.step (f := fun k => (winklelaw12_named.f k (nI (U[i]'hu))).bind fun t181 => (winklelaw12_valued.f k (nI (V[i]'hv))).bind fun t183 => if F.length < 4398046511104 then (if (Int.tmod x2 4) ≥ 2 then (winklelaw12_HeaderBack.l1 k (U.map nI) (V.map nI) x2 (bB (eL b)) (bB (wrS b q F)) (F ++ [⟨t181, t183⟩]) (i : Int) t183 (⟨#[]⟩ : ByteArray) 0 t181 t183) else (if t181.size + 2 ≤ 9223372036854775807 then (if (t181 ++ (⟨#[58, 32]⟩ : ByteArray)).size + t183.size ≤ 9223372036854775807 then (if ((t181 ++ (⟨#[58, 32]⟩ : ByteArray)) ++ t183).size + (bB (eL b)).size ≤ 9223372036854775807 then (if (bB (wrS b q F)).size + (((t181 ++ (⟨#[58, 32]⟩ : ByteArray)) ++ t183) ++ (bB (eL b))).size ≤ 9223372036854775807 then (winklelaw12_HeaderBack.l0 k (U.map nI) (V.map nI) x2 (bB (eL b)) ((bB (wrS b q F)) ++ (((t181 ++ (⟨#[58, 32]⟩ : ByteArray)) ++ t183) ++ (bB (eL b)))) (F ++ [⟨t181, t183⟩]) (wrap64 ((i : Int) + 1))) else (none)) else (none)) else (none)) else (none))) else none) (fun k => ?_) (Ev.bind eN (Ev.bind eW ?_))
      · simp only [winklelaw12_HeaderBack.j2, List.length_map, row_at U i hu, row_at V i hv]
        rw [if_pos trivial, if_pos (by omega), if_pos (by omega)]
        simp only [if_pos (show (i : Int) < (V.length : Int) by omega), Option.bind_some]
      · have hsz : (⟨#[58, 32]⟩ : ByteArray).size = 2 := rfl
        by_cases hc : Int.tmod x2 4 ≥ 2
        · have hqt := hq.1 hc
          have e0 : flagB W 0 = false := by simp [flagB]
          have hl1 := back_l1 (U.map nI) (V.map nI) x2 (bB (eL b)) (bB (wrS b q F)) (F ++ [⟨N, W⟩]) (i : Int) W N W b true rfl hWs hNs (by rw [bB_size]; omega) W.size 0 (⟨#[]⟩ : ByteArray) (Nat.zero_le _) (by omega) (by decide) (by
            have e1 : (⟨((⟨#[]⟩ : ByteArray).data.toList ++ brkL (eL b) (flagB W 0) (W.data.toList.drop 0)).toArray⟩ : ByteArray) = bB (wrV b q W.data.toList) := by
              rw [e0, hqt]; unfold wrV bB; simp
            rw [e1, wrF_bB b q ⟨N, W⟩, bB_app, ← wrS_snoc, hw]; exact next)
          refine Ev.congr (fun k => ?_) hl1
          rw [if_pos (by omega), if_pos hc]; rfl
        · have hqf : q = false := by cases q; rfl; exact absurd (hq.2 rfl) hc
          refine Ev.congr (fun k => ?_) next
          have e1 : W = bB (wrV b q W.data.toList) := by rw [hqf]; unfold wrV; exact bB_of W
          rw [if_pos (by omega), if_neg hc, if_pos (by omega), if_pos (by rw [ByteArray.size_append]; omega), if_pos (by rw [ByteArray.size_append, ByteArray.size_append, bB_size]; omega), if_pos (by rw [ByteArray.size_append, ByteArray.size_append, ByteArray.size_append, bB_size, bB_size]; omega), hw]
          have e2 : (N ++ (⟨#[58, 32]⟩ : ByteArray)) ++ W ++ bB (eL b) = bB (wrF b q ⟨N, W⟩) := by
            have := wrF_bB b q ⟨N, W⟩
            rw [← this, ← e1]
          rw [e2, bB_app, ← wrS_snoc]
    refine Ev.step (fun k => ?_) hj
    simp only [winklelaw12_HeaderBack.l0, List.length_map]
    rw [if_pos (by omega), if_pos (by omega), show decide ((i : Int) < 64) = true from decide_eq_true (by omega)]
end
theorem back_pure (U V : List (List UInt8)) (x2 : Int) (hU : ∀ u ∈ U, u.length ≤ 9223372036854775807) (hV : ∀ u ∈ V, u.length ≤ 9223372036854775807) : Ev (fun k => winklelaw12_HeaderBack.f k (U.map nI) (V.map nI) x2) true := by
  have j0 : ∀ b : Bool, Ev (fun k => winklelaw12_HeaderBack.j0 k (U.map nI) (V.map nI) x2 (bB (eL b))) true := by
    intro b
    have hq : (Int.tmod x2 4 ≥ 2) ↔ (decide (Int.tmod x2 4 ≥ 2)) = true := by simp
    refine Ev.step (fun k => ?_) (back_l0 U V x2 b (decide (Int.tmod x2 4 ≥ 2)) hq hU hV _ 0 [] (Nat.zero_le _) (Nat.zero_le _) (by decide) rfl rfl (fun f hf => by cases hf))
    simp only [winklelaw12_HeaderBack.j0]; rfl
  unfold winklelaw12_HeaderBack.f
  by_cases h : Int.tmod x2 2 = 1
  · simp only [if_pos h]; exact j0 true
  · simp only [if_neg h]; exact j0 false
end Go.Proofs.Ytodidfdfbanliaa.PAll
