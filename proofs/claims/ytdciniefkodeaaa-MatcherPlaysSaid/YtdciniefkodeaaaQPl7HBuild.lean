/- patterns.Build, walked. -/
import Derived.Carry
import Derived.Test.YtdciniefkodeaaaQPl7HLink1
import Derived.Test.YtdciniefkodeaaaQPl7HChk
set_option linter.unusedVariables false
set_option linter.unusedSimpArgs false
namespace Go.Proofs.Ytdciniefkodeaaa.PAll
open Go.Sort Go.RowKit Go.Proofs.YtdciniefkodeaaaW.PrintWords Go.Proofs.YtdciniefkodeaaaW.PrintLast Go.Proofs.YtdciniefkodeaaaW.PrintMore
attribute [local go_sem] max2_int min2_int max_two min_two
/-- The longest pattern's length. -/
def longW (ps : List Wd) : Int := ps.foldl (fun m p => if m < (p.length : Int) then (p.length : Int) else m) 0
theorem chk_zero : ∀ (ps seen : List Wd), chkL seen ps = 0 → ∀ p ∈ ps, p ≠ [] ∧ p.length ≤ 32
  | [], _, _, p, h => by cases h
  | q :: r, seen, h, p, hp => by
    rw [chkL] at h
    by_cases h1 : q = []
    · rw [if_pos h1] at h; omega
    rw [if_neg h1] at h
    by_cases h2 : 32 < q.length
    · rw [if_pos h2] at h; omega
    rw [if_neg h2] at h
    by_cases h3 : q ∈ seen
    · rw [if_pos h3] at h; omega
    rw [if_neg h3] at h
    rcases List.mem_cons.1 hp with rfl | hp
    · exact ⟨h1, by omega⟩
    · exact chk_zero r _ h p hp
theorem chkW_zero {ps : List Wd} (h : chkW ps = 0) : 0 < ps.length ∧ ps.length ≤ 64 ∧ ∀ p ∈ ps, p ≠ [] ∧ p.length ≤ 32 := by
  unfold chkW at h
  by_cases h1 : ps.length = 0 ∨ 64 < ps.length
  · rw [if_pos h1] at h; omega
  · rw [if_neg h1] at h
    exact ⟨by omega, by omega, chk_zero ps [] h⟩
theorem trie_len : ∀ (ps : List Wd) (T : List Wd), (∀ p ∈ ps, p.length ≤ 32) → (ps.foldl layW T).length ≤ T.length + 32 * ps.length
  | [], T, _ => by simp
  | p :: r, T, h => by
    have h1 := trie_len r (layW T p) (fun q hq => h q (List.mem_cons_of_mem _ hq))
    have h2 : (layW T p).length ≤ T.length + p.length := lay_len p.length
    have h3 := h p List.mem_cons_self
    rw [List.foldl_cons, List.length_cons]
    omega
theorem own_nil (x : Wd) : ownW [] x = [] := rfl
theorem take_succ_ {ps : List Wd} {k : Nat} (hk : k < ps.length) : ps.take (k + 1) = ps.take k ++ [ps.getD k []] := by
  rw [List.take_succ_eq_append_getElem hk, List.getD_eq_getElem?_getD, List.getElem?_eq_getElem hk, Option.getD_some]
theorem fold_succ {β : Type} (f : β → Wd → β) (b : β) {ps : List Wd} {k : Nat} (hk : k < ps.length) : (ps.take (k + 1)).foldl f b = f ((ps.take k).foldl f b) (ps.getD k []) := by
  rw [take_succ_ hk, List.foldl_append]; rfl
/-- The longest, written. -/
theorem LayAt.setLon {w : World} {base pa g : Nat} {cnt lon : Int} {T : List Wd} {O : Wd → List Int} (h : LayAt w base pa g cnt lon T O) (z : Int) : LayAt (w.setCell ⟨pa, 3, none⟩ (.int .i64 z)) base pa g cnt z T O := by
  obtain ⟨vn, nds, h1, h2, h3, h4, h5, h6, h7, h8⟩ := h
  refine ⟨vn, nds, h1, h2, ?_, h4.keep (KeepN.setCell h3 (by decide) (by decide) 3 _), h5, h6.of_heap (Below.heap_setCell w ⟨pa, 3, none⟩ _ g (Ne.symm (map_ne h6 h3))), h7, h8⟩
  have := heap_setCell_same w pa 3 _ _ (.int .i64 z) h3
  simpa using this
theorem LayAt.cell {w : World} {base pa g : Nat} {cnt lon : Int} {T : List Wd} {O : Wd → List Int} (h : LayAt w base pa g cnt lon T O) : w.cell? ⟨pa, 3, none⟩ = some (.int .i64 lon) ∧ w.frozen? ⟨pa, 3, none⟩ = false := by
  obtain ⟨vn, nds, h1, h2, h3, _⟩ := h
  exact ⟨by rw [cell_of_row _ _ _ _ _ _ h3]; rfl, frozen_of_row _ _ _ _ _ h3⟩
theorem lay_start (w w1 : World) (n : Int) (hB : Below w.heap.size w w1) :
    LayAt ((((w1.alloc (.cells #[.int .i64 0, .int .u8 0, .int .i64 0, .int .i64 0, .slice none 0 0] 76)).alloc (.cells #[.slice (some ⟨w1.heap.size, 0, none⟩) 1 1, .slice none 0 0, .int .i64 n, .int .i64 0] 80)).alloc (.map #[] 0))) w.heap.size (w1.heap.size + 1) (w1.heap.size + 2) n 0 [[]] (ownW []) ∧
    Below w.heap.size w ((((w1.alloc (.cells #[.int .i64 0, .int .u8 0, .int .i64 0, .int .i64 0, .slice none 0 0] 76)).alloc (.cells #[.slice (some ⟨w1.heap.size, 0, none⟩) 1 1, .slice none 0 0, .int .i64 n, .int .i64 0] 80)).alloc (.map #[] 0))) := by
  have hs := hB.size
  generalize ha : w1.alloc (.cells #[.int .i64 0, .int .u8 0, .int .i64 0, .int .i64 0, .slice none 0 0] 76) = wa
  have sa : wa.heap.size = w1.heap.size + 1 := by rw [← ha]; simp
  have h1 : wa.heap[w1.heap.size]? = some (.cells #[.int .i64 0, .int .u8 0, .int .i64 0, .int .i64 0, .slice none 0 0] 76 (0, 0)) := by rw [← ha]; exact heap_alloc_new w1 _
  have hBa : Below w.heap.size w wa := by rw [← ha]; exact hB.alloc hs _
  generalize hb : wa.alloc (.cells #[.slice (some ⟨w1.heap.size, 0, none⟩) 1 1, .slice none 0 0, .int .i64 n, .int .i64 0] 80) = wb
  have sb : wb.heap.size = w1.heap.size + 2 := by rw [← hb]; simp [sa]
  have h2 : wb.heap[w1.heap.size + 1]? = some (.cells #[.slice (some ⟨w1.heap.size, 0, none⟩) 1 1, .slice none 0 0, .int .i64 n, .int .i64 0] 80 (0, 0)) := by rw [← hb, ← sa]; exact heap_alloc_new wa _
  have h1b : wb.heap[w1.heap.size]? = some (.cells #[.int .i64 0, .int .u8 0, .int .i64 0, .int .i64 0, .slice none 0 0] 76 (0, 0)) := by rw [← hb, Below.heap_alloc wa _ _ (by omega)]; exact h1
  have hBb : Below w.heap.size w wb := by rw [← hb]; exact hBa.alloc (by omega) _
  have h3 : (wb.alloc (.map #[] 0)).heap[w1.heap.size + 2]? = some (.map #[] 0) := by rw [← sb]; exact heap_alloc_new wb _
  refine ⟨⟨_, [⟨0, 0, 0, 0, .slice none 0 0, []⟩], by omega, by omega, by rw [Below.heap_alloc wb _ _ (by omega)]; exact h2, ⟨⟨rfl, .inr ⟨w1.heap.size, 1, #[.int .i64 0, .int .u8 0, .int .i64 0, .int .i64 0, .slice none 0 0], rfl, hs, by rw [Below.heap_alloc wb _ _ (by omega)]; exact h1b, Nat.le_refl _, by unfold maxLen; omega, rfl, rfl⟩⟩, fun i x hx => ?_, fun i j x y k hij hx hy => ?_⟩, ⟨rfl, fun j x hx => ?_⟩, ⟨#[], 0, [], h3, trivial, edges_start⟩, trieI_start, fun x hx => own_nil x⟩, hBb.alloc (by omega) _⟩
  · match i, hx with
    | 0, hx =>
      obtain rfl : (⟨0, 0, 0, 0, .slice none 0 0, []⟩ : Nd) = x := by simpa using hx
      exact ⟨rfl, .inl ⟨rfl, rfl⟩⟩
    | i + 1, hx => simp at hx
  · match i, hx with
    | 0, hx => match j, hy with
      | 0, hy => exact absurd rfl hij
      | j + 1, hy => simp at hy
    | i + 1, hx => simp at hx
  · match j, hx with
    | 0, hx =>
      obtain rfl : (⟨0, 0, 0, 0, .slice none 0 0, []⟩ : Nd) = x := by simpa using hx
      exact ⟨rfl, rfl, rfl, rfl, rfl⟩
    | j + 1, hx => simp at hx
/-- What Build leaves. -/
def BuildEnd (w : World) (ps : List Wd) (e : Ending) (w' : World) : Prop :=
  Below w.heap.size w w' ∧ ((chkW ps ≠ 0 ∧ e = .returned (.tuple #[.pointer none, .int .i64 (chkW ps)])) ∨ (chkW ps = 0 ∧ ∃ pa, w.heap.size ≤ pa ∧ e = .returned (.tuple #[.pointer (some ⟨pa, 0, none⟩), .int .i64 0]) ∧ AutoAt w' pa (ps.length : Int) (longW ps) (trie ps) ps))
set_option maxHeartbeats 8000000 in
set_option maxRecDepth 1000000 in
theorem build_calls (w : World) (A : Option Addr) (n c : Nat) (ps : List Wd) (h : (Kd.slice 5 (Kd.int .u8)).C w A n ps) (hnc : n ≤ c) (hby : BytesOk ps) :
    Calls Try.prog 17 #[.slice A n c] w (BuildEnd w ps) := by
  have hchk := check_calls w A n c ps h hnc hby
  have HCH := Lib.hid hchk
  have hl : ps.length = n := h.1
  have HL := Lib.hid hl
  have HH := Lib.hid h
  have HBY := Lib.hid hby
  clear hchk hl h hby
  go_enter Try.func17, Try.ntmps17
  go_wp2_with fail
  refine HCH.out.mono ?_
  rintro e w1 ⟨rfl, hB1⟩
  have HB1 := Lib.hid hB1
  clear hB1
  by_cases hc0 : chkW ps = 0
  · rw [hc0]
    have hz : ((0 : Int) != 0) = false := rfl
    have HZ := Lib.hid hc0
    clear hc0
    have hmm := @run_makeMap Try.prog
    have hz2 := chkW_zero HZ.out
    rw [HL.out] at hz2
    obtain ⟨hn0, hn64, hps⟩ := hz2
    have HPS := Lib.hid hps
    clear hps hz
    obtain ⟨b, off, vs, rfl, hcell, hv⟩ := vals_of_C HH.out hn0
    have HC := Lib.hid hcell
    have HV := Lib.hid hv
    clear hcell hv
    go_wp2
    obtain ⟨hI, hB2⟩ := lay_start w w1 (n : Int) HB1.out
    generalize ((((w1.alloc (.cells #[.int .i64 0, .int .u8 0, .int .i64 0, .int .i64 0, .slice none 0 0] 76)).alloc (.cells #[.slice (some ⟨w1.heap.size, 0, none⟩) 1 1, .slice none 0 0, .int .i64 (n : Int), .int .i64 0] 80)).alloc (.map #[] 0))) = w2 at hI hB2 ⊢
    have hpaw : w.heap.size ≤ w1.heap.size + 1 := by have := HB1.out.size; omega
    obtain ⟨pa, hpa⟩ : ∃ pa, w1.heap.size + 1 = pa := ⟨_, rfl⟩
    obtain ⟨g, hg⟩ : ∃ g, w1.heap.size + 2 = g := ⟨_, rfl⟩
    have hg1 : w1.heap.size + 1 + 1 = g := by omega
    try rw [hg] at hI ⊢
    try rw [hg1]
    rw [hpa] at hI hpaw ⊢
    have HI := Lib.hid hI
    have HB2 := Lib.hid hB2
    clear hI hB2 hmm hpa hg hg1 HB1
    go_loopg [23] n (fun g1 vk wr => ∃ (k : Nat), vk = .int .i64 k ∧ k ≤ n ∧ n - k ≤ g1 ∧ Hid (LayAt wr w.heap.size pa g (n : Int) (longW (ps.take k)) ((ps.take k).foldl layW [[]]) (ownW (ps.take k))) ∧ Hid (Below w.heap.size w wr))
    case atStart => exact ⟨0, rfl, Nat.zero_le _, Nat.le_refl _, HI, HB2⟩
    case round =>
      clear HI HB2
      obtain ⟨k, rfl, hk, hg1, HI, HB⟩ := hrel
      by_cases hlt : k < n
      · have hkz : (k : Int) < (n : Int) := by omega
        have hkl : k < ps.length := by rw [HL.out]; exact hlt
        obtain ⟨Ak, ck, hvk, hck, hCk⟩ := HV.out k
        obtain ⟨p, hp⟩ : ∃ p, ps.getD k [] = p := ⟨_, rfl⟩
        rw [hp] at hvk hck hCk
        have hpm : p ∈ ps := by rw [← hp, List.getD_eq_getElem?_getD, List.getElem?_eq_getElem hkl, Option.getD_some]; exact List.getElem_mem _
        have hcell : wr.cell? ⟨b, off + k, none⟩ = some (.slice Ak p.length ck) := (HB.out.cell (World.block_lt_of_cell? _ _ (HC.out k hlt))).trans (by rw [HC.out k hlt, hvk])
        obtain ⟨hlc, hlf⟩ := HI.out.cell
        obtain ⟨lo, hlo⟩ : ∃ lo, longW (ps.take k) = lo := ⟨_, rfl⟩
        rw [hlo] at hlc HI
        have hlay := fun z => lay_calls w (wr.setCell ⟨pa, 3, none⟩ (.int .i64 z)) pa g (n : Int) z (k : Int) Ak ck p ((ps.take k).foldl layW [[]]) (ownW (ps.take k)) hCk hck (HPS.out p hpm).2 (HBY.out p hpm) (by
          have h1 := trie_len (ps.take k) [[]] (fun q hq => (HPS.out q (List.mem_of_mem_take hq)).2)
          have h2 : (ps.take k).length ≤ 64 := by rw [List.length_take]; omega
          have h3 : ([[]] : List Wd).length = 1 := rfl
          omega) (fun y => by
            have h1 := (outs_len (ps := ps.take k) (by rw [List.length_take]; omega) y).2
            omega) (HI.out.setLon z) (HB.out.setCell (p := ⟨pa, 3, none⟩) hpaw _)
        have HLAY := Lib.hid hlay
        have HP := Lib.hid hp
        have HLO := Lib.hid hlo
        have HKL := Lib.hid hkl
        have hEnd : Hid (∀ z, z = longW (ps.take (k + 1)) → ∀ e w', LayEnd w pa g (n : Int) z (k : Int) p ((ps.take k).foldl layW [[]]) (ownW (ps.take k)) e w' → e = .returned (.tuple #[]) ∧ LayAt w' w.heap.size pa g (n : Int) (longW (ps.take (k + 1))) ((ps.take (k + 1)).foldl layW [[]]) (ownW (ps.take (k + 1))) ∧ Below w.heap.size w w') := by
          rintro z rfl e w' ⟨h1, h2, h3⟩
          refine ⟨h1, ?_, h3⟩
          have e1 : ((ps.take (k + 1)).foldl layW [[]]) = layW ((ps.take k).foldl layW [[]]) p := by rw [fold_succ _ _ HKL.out, HP.out]
          have e2 : ownW (ps.take (k + 1)) = fun x => ownW (ps.take k) x ++ if p = x then [(k : Int)] else [] := by
            funext x
            rw [take_succ_ HKL.out, HP.out, own_snoc, List.length_take, Nat.min_eq_left (by rw [HL.out]; exact hk)]
          rw [e1, e2]
          exact h2
        have hlon1 : longW (ps.take (k + 1)) = if lo < (p.length : Int) then (p.length : Int) else lo := by
          show (ps.take (k + 1)).foldl _ _ = _
          rw [fold_succ _ _ hkl, hp]
          show (if longW (ps.take k) < _ then _ else longW (ps.take k)) = _
          rw [hlo]
        have HLON := Lib.hid hlon1
        clear hvk hCk hp hpm hlay hlo hkl hlon1
        by_cases hlp : lo < (p.length : Int)
        · have hln := HLON.out
          rw [if_pos hlp] at hln
          go_wp2_with fail
          refine (HLAY.out _).mono ?_
          intro e w' he
          obtain ⟨rfl, h1, h2⟩ := hEnd.out _ hln.symm e w' he
          have H1 := Lib.hid h1
          have H2 := Lib.hid h2
          clear h1 h2 he hEnd HLAY
          go_wp2
          go_roundg (n - (k + 1))
          case measure => omega
          case rel => exact ⟨k + 1, by go_num, by omega, Nat.le_refl _, H1, H2⟩
        · have hln := HLON.out
          rw [if_neg hlp] at hln
          go_wp2_with fail
          refine (HLAY.out _).mono ?_
          intro e w' he
          obtain ⟨rfl, h1, h2⟩ := hEnd.out _ hln.symm e w' he
          have H1 := Lib.hid h1
          have H2 := Lib.hid h2
          clear h1 h2 he hEnd HLAY
          go_wp2
          go_roundg (n - (k + 1))
          case measure => omega
          case rel => exact ⟨k + 1, by go_num, by omega, Nat.le_refl _, H1, H2⟩
      · obtain rfl : k = n := by omega
        have hI := HI.out
        rw [← HL.out, List.take_length, HL.out] at hI
        have htl : (ps.foldl layW [[]]).length = ((ps.foldl layW [[]]).length - 1) + 1 := by
          have : 0 < (trie ps).length := List.length_pos_of_mem (trie_closed ps).1
          have : 0 < (ps.foldl layW [[]]).length := this
          omega
        have hmt := mem_trie ps
        have hlink := link_calls w wr pa g ((trie ps).length - 1) (k : Int) (longW ps) (trie ps) ps htl (by
          have h1 := trie_len ps [[]] (fun q hq => (HPS.out q hq).2)
          have h3 : ([[]] : List Wd).length = 1 := rfl
          show (ps.foldl layW [[]]).length - 1 ≤ 4000
          rw [HL.out] at h1
          omega) hI HB.out (fun p hp => ⟨(hmt p).2 (.inr ⟨p, hp, List.prefix_refl p⟩), (HPS.out p hp).1⟩) (by rw [HL.out]; exact hn64) (fun x hx => by
            rcases (hmt x).1 hx with rfl | ⟨p, hp, hpre⟩
            · exact Nat.zero_le _
            · exact Nat.le_trans hpre.length_le (HPS.out p hp).2) (fun x hx y hy => by
            rcases (hmt x).1 hx with rfl | ⟨p, hp, hpre⟩
            · cases hy
            · exact HBY.out p hp y (hpre.subset hy))
        have HLK := Lib.hid hlink
        clear hI htl hmt hlink
        go_wp2_with fail
        refine HLK.out.mono ?_
        rintro e w' ⟨rfl, hA, hB⟩
        have HA := Lib.hid hA
        have HBf := Lib.hid hB
        clear hA hB
        go_wp2
        go_ret2
        exact ⟨HBf.out, .inr ⟨HZ.out, pa, hpaw, rfl, by rw [HL.out]; exact HA.out⟩⟩
  · have hz : (chkW ps != 0) = true := by simp [hc0]
    have HZ := Lib.hid hc0
    clear hc0
    go_wp2
    go_ret2
    exact ⟨HB1.out, .inl ⟨HZ.out, rfl⟩⟩
end Go.Proofs.Ytdciniefkodeaaa.PAll
