/- MimetypeBetween, the plain law, where the arguments' bulk is small. -/
import Derived.Test.YtodidfdfbanliaaQBtwHTextM
import Derived.Test.YtodidfdfbanliaaQBtwHMixed
import Derived.Test.YtodidfdfbanliaaQBtwHSame
import Derived.Test.YtodidfdfbanliaaQBtwHAwakeM
import Derived.Test.YtodidfdfbanliaaQBtwLMimetypeBetween
set_option linter.unusedVariables false
set_option linter.unusedSimpArgs false
namespace Go.Proofs.Ytodidfdfbanliaa.PAll
open Go.RowKit Go.Proofs.YtodidfdfbanliaaW.PrintWords Go.Proofs.YtodidfdfbanliaaW.PrintLast Go.Proofs.YtodidfdfbanliaaW.PrintMore
structure Gap (p : List UInt8) : Prop where
  skip : ∀ (s : ByteArray) (k : Nat) (r : List UInt8), s.data.toList.drop k = p ++ r → betP s k = betP s (k + p.length)
  head : ∀ c, p.head? = some c → markC c = false
  short : p.length ≤ 10
theorem betP_bl {s : ByteArray} {k : Nat} {c : UInt8} {r : List UInt8} (h : s.data.toList.drop k = c :: r) (hb : isBl c = true) : betP s k = betP s (k + 1) := by
  obtain ⟨hk, hc, _⟩ := at_drop h
  rw [betP_step s k hk, hc, if_pos hb]
theorem betP_cmt {s : ByteArray} {k j : Nat} {r : List UInt8} (h : s.data.toList.drop k = 40 :: r) (hc : cmtGo (40 :: r) 0 k = some j) : betP s k = betP s j := by
  obtain ⟨hk, h40, _⟩ := at_drop h
  rw [betP_step s k hk, h40, if_neg (by decide), if_pos rfl, h, hc, Option.bind_some]
theorem gap0 : Gap [] := ⟨fun s k r h => rfl, fun c h => (by cases h), by decide⟩
theorem gap1 : Gap [32] := ⟨fun s k r h => betP_bl h (by decide), fun c h => by simp at h; subst h; decide, by decide⟩
theorem gap2 : Gap [9, 32] := ⟨fun s k r h => by
    rw [betP_bl h (by decide), betP_bl (at_drop h).2.2 (by decide)]; rfl, fun c h => by simp at h; subst h; decide, by decide⟩
theorem gap3 : Gap [40, 97, 59, 98, 41] := ⟨fun s k r h => betP_cmt h (by simp [cmt_step, deepR]), fun c h => by simp at h; subst h; decide, by decide⟩
theorem gap5 : Gap [40, 41] := ⟨fun s k r h => betP_cmt h (by simp [cmt_step, deepR]), fun c h => by simp at h; subst h; decide, by decide⟩
theorem gap4 : Gap [32, 40, 120, 40, 121, 41, 92, 41, 41, 32] := ⟨fun s k r h => by
    have h1 := (at_drop h).2.2
    have e : s.data.toList.drop (k + 1) = [40, 120, 40, 121, 41, 92, 41, 41] ++ (32 :: r) := h1
    have h2 : s.data.toList.drop (k + 1 + 8) = 32 :: r := drop_app e
    rw [betP_bl h (by decide), betP_cmt (j := k + 1 + 8) h1 (by simp [cmt_step, deepR]), betP_bl h2 (by decide)]
    rfl, fun c h => by simp at h; subst h; decide, by decide⟩
def putTab : List ByteArray := [(⟨#[]⟩ : ByteArray), (⟨#[32]⟩ : ByteArray), (⟨#[9, 32]⟩ : ByteArray), (⟨#[40, 97, 59, 98, 41]⟩ : ByteArray), (⟨#[32, 40, 120, 40, 121, 41, 92, 41, 41, 32]⟩ : ByteArray), (⟨#[40, 41]⟩ : ByteArray)]
theorem gap_tab (p : ByteArray) (h : p ∈ putTab) : Gap p.data.toList := by
  unfold putTab at h
  simp only [List.mem_cons, List.not_mem_nil, or_false] at h
  rcases h with rfl | rfl | rfl | rfl | rfl | rfl
  · exact gap0
  · exact gap1
  · exact gap2
  · exact gap3
  · exact gap4
  · exact gap5
def bytesI (l : List Int) : Prop := ∀ x ∈ l, 0 ≤ x ∧ x ≤ 255
theorem put_some (l : List Int) (hl : bytesI l) (i : Nat) : ∃ p, winklelaw13_put.f l (i : Int) = some p ∧ Gap p.data.toList := by
  unfold winklelaw13_put.f
  by_cases h0 : (l.length : Int) = 0
  · rw [if_pos h0]; exact ⟨_, rfl, gap0⟩
  · rw [if_neg h0, Option.bind_some]
    have hm : Int.tmod (i : Int) (l.length : Int) = ((i % l.length : Nat) : Int) := by
      rw [Int.tmod_eq_emod_of_nonneg (by omega)]; rfl
    have hlt : i % l.length < l.length := Nat.mod_lt _ (by omega)
    have hrd : rd l ((i % l.length : Nat) : Int) = l[i % l.length] := by
      show l.getD ((i % l.length : Nat) : Int).toNat 0 = _
      rw [Int.toNat_natCast, List.getD_eq_getElem?_getD, List.getElem?_eq_getElem hlt]; rfl
    obtain ⟨b0, b1⟩ := hl l[i % l.length] (List.getElem_mem hlt)
    rw [hm, hrd]
    have hm2 : Int.tmod l[i % l.length] 6 = l[i % l.length] % 6 := Int.tmod_eq_emod_of_nonneg b0
    rw [hm2, if_pos (by omega), if_pos (by omega), if_pos (by omega), if_pos (by show _ < ((6 : Nat) : Int); omega)]
    obtain ⟨n, hn⟩ := Int.eq_ofNat_of_zero_le (show 0 ≤ l[i % l.length] % 6 by omega)
    rw [hn]
    have hn6 : n < putTab.length := by show n < 6; omega
    refine ⟨putTab[n], congrArg some ?_, gap_tab _ (List.getElem_mem hn6)⟩
    exact rdOf_at putTab n hn6
def putB (l : List Int) (i : Nat) : ByteArray := match winklelaw13_put.f l (i : Int) with | some p => p | none => ⟨#[]⟩
theorem putB_is (l : List Int) (hl : bytesI l) (i : Nat) : winklelaw13_put.f l (i : Int) = some (putB l i) ∧ Gap (putB l i).data.toList ∧ (putB l i).size ≤ 10 := by
  obtain ⟨p, h, g⟩ := put_some l hl i
  unfold putB
  rw [h]
  exact ⟨rfl, g, by have := g.short; rw [toList_size] at this; exact this⟩
theorem up_byte (c : UInt8) (h1 : 97 ≤ c) (h2 : c ≤ 122) : markC (c - 32) = true ∧ markC c = true ∧ lowC (c - 32) = c ∧ lowC c = c := by
  have := by_bytes (p := fun i c => 97 ≤ c → c ≤ 122 → markC (c - 32) = true ∧ markC c = true ∧ lowC (c - 32) = c ∧ lowC c = c) (by decide +kernel) c
  exact this h1 h2
theorem mixC_mark (l : List Int) (i : Nat) (c : UInt8) : markC (mixC l i c) = markC c ∧ lowC (mixC l i c) = lowC c := by
  unfold mixC
  by_cases h : capAt l i = true ∧ 97 ≤ c ∧ c ≤ 122
  · rw [if_pos h]
    obtain ⟨h1, h2, h3, h4⟩ := up_byte c h.2.1 h.2.2
    rw [h1, h2, h3, h4]; exact ⟨rfl, rfl⟩
  · rw [if_neg h]; exact ⟨rfl, rfl⟩
theorem mixL_tok (w : List UInt8) (l : List Int) : tokL (mixL w l) = tokL w ∧ lowL (mixL w l) = lowL w ∧ (mixL w l).length = w.length := by
  have hlen : (mixL w l).length = w.length := by simp [mixL]
  refine ⟨?_, ?_, hlen⟩
  · unfold tokL
    have e1 : (mixL w l).isEmpty = w.isEmpty := by cases w <;> simp [mixL]
    have e2 : (mixL w l).all markC = w.all markC := by
      rw [Bool.eq_iff_iff, List.all_eq_true, List.all_eq_true]
      constructor
      · intro h x hx
        obtain ⟨i, hi, rfl⟩ := List.mem_iff_getElem.1 hx
        have := h ((mixL w l)[i]'(by omega)) (List.getElem_mem _)
        simp only [mixL, List.getElem_mapIdx] at this
        rw [(mixC_mark l i w[i]).1] at this
        exact this
      · intro h x hx
        obtain ⟨i, hi, rfl⟩ := List.mem_iff_getElem.1 hx
        have := h (w[i]'(by omega)) (List.getElem_mem _)
        simp only [mixL, List.getElem_mapIdx]
        rw [(mixC_mark l i (w[i]'(by omega))).1]
        exact this
    rw [e1, e2]
  · apply List.ext_getElem
    · simp [lowL, hlen]
    · intro i h1 h2
      simp only [lowL, List.getElem_map, mixL, List.getElem_mapIdx]
      exact (mixC_mark l i _).2
/-- What stands behind a gap begins no gap and no token. -/
def Stop (r : List UInt8) : Prop := ∀ c, r.head? = some c → isBl c = false ∧ c ≠ 40
def Cut (r : List UInt8) : Prop := ∀ c, r.head? = some c → markC c = false
theorem gap_bet {p : List UInt8} (g : Gap p) {s : ByteArray} {k : Nat} {r : List UInt8} (h : s.data.toList.drop k = p ++ r) (hr : Stop r) : betP s k = some (k + p.length) := by
  rw [g.skip s k r h]
  exact betP_stay (drop_app h) hr
theorem gap_cut {p r : List UInt8} (g : Gap p) (hr : Cut r) : Cut (p ++ r) := by
  intro c h
  cases p with
  | nil => exact hr c h
  | cons x p => exact g.head c h
theorem tok_gap {s : ByteArray} {k : Nat} {w p r : List UInt8} (h : s.data.toList.drop k = w ++ (p ++ r)) (hw : tokL w = true) (g : Gap p) (hr : Stop r) (hc : Cut r) : tokGo s k = some (⟨w.toArray⟩, k + w.length + p.length) := by
  rw [tokGo_word h hw (gap_cut g hc), gap_bet g (drop_app h) hr]; rfl
theorem exp_gap {s : ByteArray} {k : Nat} {c : UInt8} {p r : List UInt8} (h : s.data.toList.drop k = c :: (p ++ r)) (g : Gap p) (hr : Stop r) : expGo s k c = some (k + 1 + p.length) := by
  rw [expGo_sign h, gap_bet g (at_drop h).2.2 hr]
theorem val_gap {s : ByteArray} {k : Nat} {p r : List UInt8} (v : ByteArray) (h : s.data.toList.drop k = writtenL v.data.toList ++ (p ++ r)) (g : Gap p) (hr : Stop r) (hc : Cut r) : valGo s k = some (v, k + (writtenL v.data.toList).length + p.length) := by
  rw [valGo_written v h (gap_cut g hc), gap_bet g (drop_app h) hr]; rfl
theorem tok_stop {w : List UInt8} (h : tokL w = true) (r : List UInt8) : Stop (w ++ r) := by
  obtain ⟨c, t, e, h1, h2⟩ := tok_head h
  intro d hd
  rw [e] at hd; simp at hd; subst hd; exact ⟨h1, h2⟩
theorem written_stop (v r : List UInt8) : Stop (writtenL v ++ r) := by
  obtain ⟨c, t, e, h1, h2⟩ := written_head v
  intro d hd
  rw [e] at hd; simp at hd; subst hd; exact ⟨h1, h2⟩
def segL (l : List Int) (i : Nat) (p : S42) : List UInt8 := 59 :: ((putB l i).data.toList ++ (mixL p.f0.data.toList l ++ ((putB l (i + 1)).data.toList ++ (61 :: ((putB l (i + 2)).data.toList ++ (writtenL p.f1.data.toList ++ (putB l (i + 3)).data.toList))))))
def segsL (l : List Int) : Nat → List S42 → List UInt8
  | _, [] => []
  | i, p :: ps => segL l i p ++ segsL l (i + 1) ps
theorem segs_head (l : List Int) (i : Nat) (ps : List S42) : ∀ c, (segsL l i ps).head? = some c → c = 59 := by
  cases ps with
  | nil => intro c h; cases h
  | cons p ps => intro c h; simp [segsL, segL] at h; exact h.symm
theorem segs_stop (l : List Int) (i : Nat) (ps : List S42) : Stop (segsL l i ps) ∧ Cut (segsL l i ps) :=
  ⟨fun c h => by rw [segs_head l i ps c h]; decide, fun c h => by rw [segs_head l i ps c h]; decide⟩
theorem par_gaps (l : List Int) (hl : bytesI l) (s : ByteArray) (ps : List S42) : ∀ (i n k : Nat), s.data.toList.drop k = segsL l i ps → s.size + 1 ≤ n + k → ps.all (fun p => goodL p.f0.data.toList) = true → parGo n s k = some ps := by
  induction ps with
  | nil =>
    intro i n k h hn ha
    have hk := drop_nil h
    cases n with
    | zero => rfl
    | succ n => rw [parGo, if_neg hk]
  | cons p ps ih =>
    intro i n k h hn ha
    simp only [List.all_cons, Bool.and_eq_true] at ha
    obtain ⟨ht, hlow⟩ := good_tok ha.1
    obtain ⟨mt, ml, mlen⟩ := mixL_tok p.f0.data.toList l
    rw [ht] at mt
    obtain ⟨_, g0, _⟩ := putB_is l hl i
    obtain ⟨_, g1, _⟩ := putB_is l hl (i + 1)
    obtain ⟨_, g2, _⟩ := putB_is l hl (i + 2)
    obtain ⟨_, g3, _⟩ := putB_is l hl (i + 3)
    obtain ⟨st, ct⟩ := segs_stop l (i + 1) ps
    simp only [segsL, segL, List.cons_append, List.append_assoc] at h
    obtain ⟨hk, _, h1⟩ := at_drop h
    obtain ⟨n, rfl⟩ : ∃ m, n = m + 1 := ⟨n - 1, by omega⟩
    have x1 := exp_gap h g0 (tok_stop mt _)
    have h2 := drop_app h1
    have x2 := tok_gap h2 mt g1 (r := 61 :: _) (fun c hc => by simp at hc; subst hc; decide) (fun c hc => by simp at hc; subst hc; decide)
    have h3 := drop_app (drop_app h2)
    have x3 := exp_gap h3 g2 (written_stop _ _)
    have h4 := drop_app (at_drop h3).2.2
    have x4 := val_gap p.f1 h4 g3 st ct
    have h5 := drop_app (drop_app h4)
    rw [parGo, if_pos hk, x1, Option.bind_some, x2, Option.bind_some]
    simp only []
    rw [x3, Option.bind_some, x4, Option.bind_some]
    simp only []
    rw [ih (i + 1) n _ h5 (by omega) ha.2]
    have e : lowB (⟨(mixL p.f0.data.toList l).toArray⟩ : ByteArray) = p.f0 := by
      unfold lowB
      show (⟨(lowL (mixL p.f0.data.toList l)).toArray⟩ : ByteArray) = p.f0
      rw [ml, hlow, ba_eta]
    rw [e]; rfl
def headL (l : List Int) (m u : ByteArray) : List UInt8 := (putB l 3).data.toList ++ (mixL m.data.toList l ++ ((putB l 0).data.toList ++ (47 :: ((putB l 1).data.toList ++ (mixL u.data.toList l ++ (putB l 2).data.toList)))))
def fullL (l : List Int) (m u : ByteArray) (ps : List S42) : List UInt8 := headL l m u ++ segsL l 0 ps
theorem type_gaps (l : List Int) (hl : bytesI l) (m u : ByteArray) (ps : List S42) (h : goodT m u ps = true) (s : ByteArray) (hs : s.data.toList = fullL l m u ps) : typeGo s = some (m, u, ps) := by
  unfold goodT at h
  simp only [Bool.and_eq_true] at h
  obtain ⟨⟨hm, hu⟩, hp⟩ := h
  obtain ⟨tm, lm⟩ := good_tok hm
  obtain ⟨tu, lu⟩ := good_tok hu
  obtain ⟨mt, ml, mlen⟩ := mixL_tok m.data.toList l
  obtain ⟨ut, ul, ulen⟩ := mixL_tok u.data.toList l
  rw [tm] at mt
  rw [tu] at ut
  obtain ⟨_, g0, _⟩ := putB_is l hl 0
  obtain ⟨_, g1, _⟩ := putB_is l hl 1
  obtain ⟨_, g2, _⟩ := putB_is l hl 2
  obtain ⟨_, g3, _⟩ := putB_is l hl 3
  obtain ⟨st, ct⟩ := segs_stop l 0 ps
  have h0 : s.data.toList.drop 0 = fullL l m u ps := by rw [List.drop_zero, hs]
  simp only [fullL, headL, List.cons_append, List.append_assoc] at h0
  have x0 := gap_bet g3 h0 (tok_stop mt _)
  have h1 := drop_app h0
  have x1 := tok_gap h1 mt g0 (r := 47 :: _) (fun c hc => by simp at hc; subst hc; decide) (fun c hc => by simp at hc; subst hc; decide)
  have h2 := drop_app (drop_app h1)
  have x2 := exp_gap h2 g1 (tok_stop ut _)
  have h3 := drop_app (at_drop h2).2.2
  have x3 := tok_gap h3 ut g2 st ct
  have h4 := drop_app (drop_app h3)
  unfold typeGo
  rw [x0, Option.bind_some, x1, Option.bind_some]
  simp only []
  rw [x2, Option.bind_some, x3, Option.bind_some]
  simp only []
  rw [par_gaps l hl s ps 0 _ _ h4 (by omega) hp]
  have e1 : lowB (⟨(mixL m.data.toList l).toArray⟩ : ByteArray) = m := by
    show (⟨(lowL (mixL m.data.toList l)).toArray⟩ : ByteArray) = m
    rw [ml, lm, ba_eta]
  have e2 : lowB (⟨(mixL u.data.toList l).toArray⟩ : ByteArray) = u := by
    show (⟨(lowL (mixL u.data.toList l)).toArray⟩ : ByteArray) = u
    rw [ul, lu, ba_eta]
  rw [e1, e2]; rfl
theorem Ev.succ {α : Type} {g : Nat → Option α} {r : α} (h : Ev (fun k => g (k + 1)) r) : Ev g r := Ev.step (f := fun k => g (k + 1)) (fun _ => rfl) h
theorem mixB_list (a : ByteArray) (l : List Int) : (mixB a l).data.toList = mixL a.data.toList l := rfl
theorem mixB_size (a : ByteArray) (l : List Int) : (mixB a l).size = a.size := by
  rw [← toList_size, mixB_list, (mixL_tok _ _).2.2, toList_size]
theorem mixed_is (a : ByteArray) (l : List Int) (ha : a.size ≤ 9223372036854775807) (hl : l.length ≤ 9223372036854775807) (hb : bytesI l) : winklelaw13_mixed.f a l = some (mixB a l) := by
  unfold winklelaw13_mixed.f
  rw [if_pos ⟨ha, hl, by rw [List.all_eq_true]; intro x hx; exact decide_eq_true (hb x hx)⟩]
def oneB (v : ByteArray) : ByteArray := textB ⟨#[97]⟩ ⟨#[98]⟩ [⟨⟨#[99]⟩, v⟩]
theorem oneB_list (v : ByteArray) : (oneB v).data.toList = [97, 47, 98, 59, 32, 99, 61] ++ writtenL v.data.toList := by
  simp [oneB, textB, textL, parsL, parL]
theorem oneB_rest (v : ByteArray) : (oneB v).extract 7 (oneB v).size = writtenB v := by
  apply ext_toList
  rw [extract_toList, List.take_of_length_le (by simp), oneB_list]
  rfl
theorem oneB_size (v : ByteArray) : 7 ≤ (oneB v).size := by
  rw [← toList_size, oneB_list]; simp
theorem one_ev (v : ByteArray) (hv : v.size ≤ 536870912) : Ev (fun k => mimetype_Text.f k (⟨#[97]⟩ : ByteArray) (⟨#[98]⟩ : ByteArray) [(⟨(⟨#[99]⟩ : ByteArray), v⟩ : S42)]) (oneB v, true) := by
  have h := text_ev ⟨#[97]⟩ ⟨#[98]⟩ [⟨⟨#[99]⟩, v⟩] (by simp) (by decide) (by decide) (fun p hp => by
    rw [List.mem_singleton] at hp; subst hp; exact ⟨(show (⟨#[99]⟩ : ByteArray).size ≤ 536870912 by decide), hv⟩)
  have e : txtR ⟨#[97]⟩ ⟨#[98]⟩ [⟨⟨#[99]⟩, v⟩] = (oneB v, true) := by
    unfold txtR
    have g : goodT ⟨#[97]⟩ ⟨#[98]⟩ [⟨⟨#[99]⟩, v⟩] = true := by
      show (goodL [97] && goodL [98] && (goodL [99] && true)) = true
      decide +kernel
    rw [if_pos g]; rfl
  rw [e] at h
  exact h
theorem put_len (l : List Int) (hl : bytesI l) (i : Nat) : (putB l i).data.toList.length ≤ 10 := by
  rw [toList_size]; exact (putB_is l hl i).2.2
theorem seg_len (l : List Int) (hl : bytesI l) (i : Nat) (p : S42) (h0 : p.f0.size ≤ 1048576) (h1 : p.f1.size ≤ 1048576) : (segL l i p).length ≤ 3145778 := by
  have := put_len l hl i; have := put_len l hl (i + 1); have := put_len l hl (i + 2); have := put_len l hl (i + 3)
  have hw := written_size p.f1
  rw [← toList_size, show (writtenB p.f1).data.toList = writtenL p.f1.data.toList from rfl] at hw
  have hm := (mixL_tok p.f0.data.toList l).2.2
  rw [toList_size] at hm
  simp only [segL, List.length_cons, List.length_append]
  omega
theorem segs_len (l : List Int) (hl : bytesI l) (ps : List S42) : ∀ i : Nat, (∀ p ∈ ps, p.f0.size ≤ 1048576 ∧ p.f1.size ≤ 1048576) → (segsL l i ps).length ≤ ps.length * 3145778 := by
  induction ps with
  | nil => intro i h; simp [segsL]
  | cons p ps ih =>
    intro i h
    have h1 := seg_len l hl i p (h p (by simp)).1 (h p (by simp)).2
    have h2 := ih (i + 1) (fun q hq => h q (by simp [hq]))
    rw [segsL, List.length_append, List.length_cons, Nat.succ_mul]
    omega
theorem full_len (l : List Int) (hl : bytesI l) (m u : ByteArray) (ps : List S42) (hm : m.size ≤ 1048576) (hu : u.size ≤ 1048576) (hn : ps.length ≤ 1048576) (hp : ∀ p ∈ ps, p.f0.size ≤ 1048576 ∧ p.f1.size ≤ 1048576) : (fullL l m u ps).length ≤ 4398046511104 := by
  have := put_len l hl 0; have := put_len l hl 1; have := put_len l hl 2; have := put_len l hl 3
  have h1 := segs_len l hl ps 0 hp
  have hm1 := (mixL_tok m.data.toList l).2.2
  have hu1 := (mixL_tok u.data.toList l).2.2
  rw [toList_size] at hm1 hu1
  simp only [fullL, headL, List.length_append, List.length_cons]
  omega
theorem wrap_two (i : Nat) (h : (i : Int) ≤ 1048576) : wrap64 ((i : Int) + 2) = ((i + 2 : Nat) : Int) := by unfold wrap64; omega
theorem wrap_three (i : Nat) (h : (i : Int) ≤ 1048576) : wrap64 ((i : Int) + 3) = ((i + 3 : Nat) : Int) := by unfold wrap64; omega
set_option maxHeartbeats 1000000 in
theorem btw_l0 (l : List Int) (hl : bytesI l) (hll : l.length ≤ 9223372036854775807) (m u : ByteArray) (ps : List S42) (hm : m.size ≤ 1048576) (hu : u.size ≤ 1048576) (hn : ps.length ≤ 1048576) (hp : ∀ p ∈ ps, p.f0.size ≤ 1048576 ∧ p.f1.size ≤ 1048576) (hg : goodT m u ps = true) (d : Nat) :
    ∀ (i : Nat) (x : ByteArray), i ≤ ps.length → ps.length - i = d → x.data.toList ++ segsL l i (ps.drop i) = fullL l m u ps →
    Ev (fun k => winklelaw13_MimetypeBetween.l0 k l x (i : Int) m u ps) true := by
  have hfull := full_len l hl m u ps hm hu hn hp
  induction d with
  | zero =>
    intro i x hi hd hx
    have e1 : ps.drop i = [] := List.drop_of_length_le (by omega)
    rw [e1, segsL, List.append_nil] at hx
    have hsz : x.size ≤ 4398046511104 := by rw [← toList_size, hx]; exact hfull
    have hT : mimetype_Type.f x = some (m, u, ps, true) := by
      unfold mimetype_Type.f typeR
      rw [if_pos hsz, type_gaps l hl m u ps hg x hx]
    refine Ev.succ ?_
    simp only [winklelaw13_MimetypeBetween.l0]
    refine Ev.congr (fun k => if_neg (by omega)) ?_
    rw [hT]
    simp only [Option.bind_some, if_true]
    refine Ev.bind (f := fun k t448 => _) (fields_same ps (by omega)) ?_
    refine Ev.congr (fun k => if_pos rfl) ?_
    exact Ev.bind (f := fun _ t => some t) awake13_ev (Ev.now _)
  | succ d ih =>
    intro i x hi hd hx
    have hlt : i < ps.length := by omega
    rw [List.drop_eq_getElem_cons hlt, segsL] at hx
    obtain ⟨s0, s1⟩ := hp ps[i] (List.getElem_mem hlt)
    have hxs : x.size ≤ 4398046511104 := by
      have := congrArg List.length hx
      rw [List.length_append, toList_size] at this; omega
    obtain ⟨p0, _, z0⟩ := putB_is l hl i
    obtain ⟨p1, _, z1⟩ := putB_is l hl (i + 1)
    obtain ⟨p2, _, z2⟩ := putB_is l hl (i + 2)
    obtain ⟨p3, _, z3⟩ := putB_is l hl (i + 3)
    have hmx := mixed_is ps[i].f0 l (by omega) hll hl
    have zm := mixB_size ps[i].f0 l
    have zw := written_size ps[i].f1
    have zo := oneB_size ps[i].f1
    have e59 : (⟨#[59]⟩ : ByteArray).size = 1 := rfl
    have e61 : (⟨#[61]⟩ : ByteArray).size = 1 := rfl
    have W1 := Lib.hid (wrap_succ i ps.length hlt (by omega))
    have hi48 : (i : Int) ≤ 1048576 := by omega
    have W2 := Lib.hid (wrap_two i hi48)
    have W3 := Lib.hid (wrap_three i hi48)
    have hat : rd_T42 ps (i : Int) = ps[i] := by simp [rd_T42, List.getD_eq_getElem?_getD, List.getElem?_eq_getElem hlt]
    have hnext := ih (i + 1) (x ++ ((((((((⟨#[59]⟩ : ByteArray) ++ putB l i) ++ mixB ps[i].f0 l) ++ putB l (i + 1)) ++ (⟨#[61]⟩ : ByteArray)) ++ putB l (i + 2)) ++ writtenB ps[i].f1) ++ putB l (i + 3))) (by omega) (by omega) (by
      rw [← hx]
      simp [segL, mixB_list, writtenB])
    refine Ev.succ ?_
    simp only [winklelaw13_MimetypeBetween.l0, hat]
    refine Ev.congr (fun k => if_pos (by omega)) ?_
    refine Ev.congr (fun k => if_pos (by omega)) ?_
    refine Ev.bind (f := fun k bt454 => _) (one_ev ps[i].f1 (by omega)) ?_
    simp only [oneB_rest, W1.out, W2.out, W3.out, p0, p1, p2, p3, hmx, Option.bind_some]
    refine Ev.congr (fun k => if_neg (by omega)) ?_
    refine Ev.congr (fun k => if_pos (by omega)) ?_
    refine Ev.congr (fun k => if_pos (by simp only [ByteArray.size_append, e59]; omega)) ?_
    refine Ev.congr (fun k => if_pos (by simp only [ByteArray.size_append, e59]; omega)) ?_
    refine Ev.congr (fun k => if_pos (by simp only [ByteArray.size_append, e59]; omega)) ?_
    refine Ev.congr (fun k => if_pos (by simp only [ByteArray.size_append, e59, e61]; omega)) ?_
    refine Ev.congr (fun k => if_pos (by omega)) ?_
    refine Ev.congr (fun k => if_pos (by simp only [ByteArray.size_append, e59, e61]; omega)) ?_
    refine Ev.congr (fun k => if_pos (by simp only [ByteArray.size_append, e59, e61]; omega)) ?_
    refine Ev.congr (fun k => if_pos (by simp only [ByteArray.size_append, e59, e61]; omega)) ?_
    exact hnext
theorem btw_pure (m u : ByteArray) (ps : List S42) (l : List Int) (hm : m.size ≤ 1048576) (hu : u.size ≤ 1048576) (hn : ps.length ≤ 1048576) (hp : ∀ p ∈ ps, p.f0.size ≤ 1048576 ∧ p.f1.size ≤ 1048576) (hl : bytesI l) (hll : l.length ≤ 9223372036854775807) : ∃ k, winklelaw13_MimetypeBetween.f k m u ps l = some true := by
  have ht := text_ev m u ps (by omega) (by omega) (by omega) (fun p h2 => ⟨by have := (hp p h2).1; omega, by have := (hp p h2).2; omega⟩)
  have hA : Ev (fun k => (winklelaw13_awake.f k).bind fun t => some t) true := Ev.bind (f := fun _ t => some t) awake13_ev (Ev.now _)
  have : Ev (fun k => winklelaw13_MimetypeBetween.f k m u ps l) true := by
    unfold winklelaw13_MimetypeBetween.f
    refine Ev.bind (f := fun k bt432 => _) ht ?_
    unfold txtR
    by_cases hg : goodT m u ps = true
    · rw [if_pos hg]
      simp only [if_true]
      obtain ⟨p0, _, z0⟩ := putB_is l hl 0
      obtain ⟨p1, _, z1⟩ := putB_is l hl 1
      obtain ⟨p2, _, z2⟩ := putB_is l hl 2
      obtain ⟨p3, _, z3⟩ := putB_is l hl 3
      have q0 : winklelaw13_put.f l 0 = some (putB l 0) := p0
      have q1 : winklelaw13_put.f l 1 = some (putB l 1) := p1
      have q2 : winklelaw13_put.f l 2 = some (putB l 2) := p2
      have q3 : winklelaw13_put.f l 3 = some (putB l 3) := p3
      have hmm := mixed_is m l (by omega) hll hl
      have hmu := mixed_is u l (by omega) hll hl
      have zm := mixB_size m l
      have zu := mixB_size u l
      have e47 : (⟨#[47]⟩ : ByteArray).size = 1 := rfl
      simp only [hmm, hmu, q0, q1, q2, q3, Option.bind_some]
      refine Ev.congr (fun k => if_pos (by omega)) ?_
      refine Ev.congr (fun k => if_pos (by simp only [ByteArray.size_append]; omega)) ?_
      refine Ev.congr (fun k => if_pos (by simp only [ByteArray.size_append, e47]; omega)) ?_
      refine Ev.congr (fun k => if_pos (by simp only [ByteArray.size_append, e47]; omega)) ?_
      refine Ev.congr (fun k => if_pos (by simp only [ByteArray.size_append, e47]; omega)) ?_
      refine Ev.congr (fun k => if_pos (by simp only [ByteArray.size_append, e47]; omega)) ?_
      exact btw_l0 l hl hll m u ps hm hu hn hp hg ps.length 0 _ (by omega) (by omega) (by
        rw [List.drop_zero]
        simp [fullL, headL, mixB_list])
    · rw [if_neg hg]
      simp only [Bool.false_eq_true, if_false]
      exact hA
  exact this.rounds
end Go.Proofs.Ytodidfdfbanliaa.PAll
