/- What PatternsBuilds keeps: the reference's machine beside the machine; the rows that it writes into. -/
import Derived.Test.YtdciniefkodeaaaQBu6HRefBuild
import Derived.Test.YtdciniefkodeaaaQBu6HTurned6
import Derived.Test.YtdciniefkodeaaaQBu6HAll
set_option linter.unusedVariables false
set_option linter.unusedSimpArgs false
namespace Go.Proofs.Ytdciniefkodeaaa.PAll
open Go.Sort Go.RowKit Go.Proofs.YtdciniefkodeaaaW.PrintWords Go.Proofs.YtdciniefkodeaaaW.PrintLast Go.Proofs.YtdciniefkodeaaaW.PrintMore
structure CtxV (w wr : World) (g pa : Nat) (A : Option Addr) (c : Nat) (ps : List Wd) : Prop where
  below : Below w.heap.size w wr
  ref : RefAt w wr g A c ps (trie ps)
  mach : MachAt wr pa ps
theorem CtxV.next {w wr w1 : World} {g pa : Nat} {A : Option Addr} {c : Nat} {ps : List Wd} (h : CtxV w wr g pa A c ps) (hb : Below wr.heap.size wr w1) : CtxV w w1 g pa A c ps :=
  ⟨h.below.trans (hb.mono h.below.size), h.ref.next hb, h.mach.below hb⟩
theorem RefAt.moved {w0 w w1 : World} {g : Nat} {A : Option Addr} {c : Nat} {ps T : List Wd} (h : RefAt w0 w g A c ps T) (hb : Below w0.heap.size w0 w1)
    (hm : ∀ (k ty : Nat) (cells : Array Value), w.heap[k]? = some (.cells cells ty (0, 0)) → (ty = 57 ∨ ty = 32 ∨ ty = 92 ∨ ty = 94) → w1.heap[k]? = w.heap[k]?) : RefAt w0 w1 g A c ps T := by
  obtain ⟨vW, vK, wv, kv, K, h1, h2⟩ := h
  exact ⟨vW, vK, wv, kv, K, h1.moved hb hm, h2⟩
/-- A store into a row of bytes of the call's own. -/
theorem CtxV.set5 {w wr : World} {g pa : Nat} {A : Option Addr} {c : Nat} {ps : List Wd} (h : CtxV w wr g pa A c ps) {b : Nat} {cells : Array Value} (hb : wr.heap[b]? = some (.cells cells 5 (0, 0))) (hw : w.heap.size ≤ b) (j : Nat) (u : Value) : CtxV w (wr.setCell ⟨b, j, none⟩ u) g pa A c ps := by
  have hB : Below w.heap.size w (wr.setCell ⟨b, j, none⟩ u) := h.below.grown (grown_set0 b j u) h.below.size (fun k e => by rw [← Option.some.inj e]; exact hw)
  have hk : ∀ (k ty : Nat) (cells' : Array Value), wr.heap[k]? = some (.cells cells' ty (0, 0)) → ty ≠ 5 → (wr.setCell ⟨b, j, none⟩ u).heap[k]? = wr.heap[k]? := fun k ty cells' hk hne => Below.heap_setCell wr ⟨b, j, none⟩ u k (ne_of_types hk hb hne)
  exact ⟨hB, h.ref.moved hB fun k ty cells' hkk ht => hk k ty cells' hkk (by rcases ht with rfl | rfl | rfl | rfl <;> decide), h.mach.moved fun k ty cells' hkk ht => hk k ty cells' hkk (by rcases ht with rfl | rfl | rfl | rfl <;> decide)⟩
/-- The copy that the machine was made of: rows of bytes of the call's own. -/
structure InAt (w : World) (base : Nat) (ad : Addr) (ps : List Wd) : Prop where
  outer : ∃ cells, w.heap[ad.block]? = some (.cells cells 32 (0, 0))
  rows : ∀ i, i < ps.length → ∃ b c, w.cell? (ad.add i) = some (.slice (some ⟨b, 0, none⟩) (ps.getD i []).length c) ∧ base ≤ b ∧ (∃ cells, w.heap[b]? = some (.cells cells 5 (0, 0))) ∧ ∀ k, k < (ps.getD i []).length → ∃ z, w.cell? ⟨b, k, none⟩ = some (.int .u8 z)
theorem cell_set_other {w : World} {b j : Nat} {u : Value} {p : Addr} {x : Value} (h : w.cell? p = some x) (hne : p.block ≠ b) : (w.setCell ⟨b, j, none⟩ u).cell? p = some x :=
  cell_block h (Below.heap_setCell w ⟨b, j, none⟩ u p.block hne)
theorem InAt.set {w : World} {base : Nat} {ad : Addr} {ps : List Wd} (h : InAt w base ad ps) {b j : Nat} {cells : Array Value} (hb : w.heap[b]? = some (.cells cells 5 (0, 0))) (z : Int) : InAt (w.setCell ⟨b, j, none⟩ (.int .u8 z)) base ad ps := by
  obtain ⟨cells0, ho⟩ := h.outer
  have hne : ad.block ≠ b := ne_of_types ho hb (by decide)
  refine ⟨⟨cells0, (Below.heap_setCell w ⟨b, j, none⟩ _ _ hne).trans ho⟩, fun i hi => ?_⟩
  obtain ⟨b', c, h1, h2, ⟨cells', h3⟩, h4⟩ := h.rows i hi
  refine ⟨b', c, cell_set_other h1 (by rw [show (ad.add i).block = ad.block from by unfold Addr.add; split <;> rfl]; exact hne), h2, ?_, fun k hk => ?_⟩
  · by_cases e : b' = b
    · subst e
      exact ⟨_, setCell_blk h3⟩
    · exact ⟨cells', (Below.heap_setCell w ⟨b, j, none⟩ _ _ e).trans h3⟩
  · obtain ⟨z', hz'⟩ := h4 k hk
    by_cases e : b' = b
    · subst e
      have hs := setCell_blk (j := j) (u := .int .u8 z) h3
      rw [cell_of_row _ _ _ _ _ _ hs]
      rw [cell_of_row _ _ _ _ _ _ h3] at hz'
      by_cases e2 : j = k
      · subst e2
        have hlt : j < cells'.size := (Array.getElem?_eq_some_iff.1 hz').1
        exact ⟨z, by rw [Array.getElem?_setIfInBounds_self_of_lt hlt]⟩
      · exact ⟨z', by rw [Array.getElem?_setIfInBounds_ne e2]; exact hz'⟩
    · exact ⟨z', cell_set_other hz' e⟩
theorem in_of {w : World} {base : Nat} {A : Option Addr} {n c : Nat} {ps : List Wd} (h : kB.R 32 w base (fun _ => True) (.slice A n c) ps) (hn : 0 < ps.length) (hp : ∀ p ∈ ps, p ≠ []) : ∃ ad, A = some ad ∧ InAt w base ad ps := by
  obtain ⟨_, inner, hown, hreps⟩ := h
  obtain ⟨g, c2, hv, hb, hcells, _, hc⟩ := own_at hown hn
  injection hv with e1 e2 e3
  subst e1
  refine ⟨_, rfl, hcells, fun i hi => ?_⟩
  have hM := hreps.2 i _ (getD_some hi [])
  obtain ⟨v1, hcs, hR1⟩ := hM
  obtain ⟨_, inner1, hown1, hr1⟩ := hR1
  have hpos : 0 < (ps.getD i []).length := by
    rcases Nat.eq_zero_or_pos (ps.getD i []).length with h0 | h0
    · have hm : ps.getD i [] ∈ ps := by rw [List.getD_eq_getElem?_getD, List.getElem?_eq_getElem hi]; exact List.getElem_mem _
      exact absurd (List.eq_nil_of_length_eq_zero h0) (hp _ hm)
    · exact h0
  obtain ⟨b, cb, rfl, hbb, hcb, _, hcc⟩ := own_at hown1 hpos
  refine ⟨b, cb, ?_, hbb, hcb, fun k hk => ?_⟩
  · rw [Go.WideShapes.add_plain, Nat.zero_add, hc i (by show i < ps.length * 1; omega)]
    have hcs' : (inner.drop (i * 1)).take 1 = [.slice (some ⟨b, 0, none⟩) (ps.getD i []).length cb] := hcs
    have := congrArg (fun l => l[0]?) hcs'
    simp only [List.getElem?_take, List.getElem?_drop] at this
    simpa using this
  · have hM1 := hr1.2 k _ (getD_some hk 0)
    have hq : (inner1.drop (k * 1)).take 1 = [.int .u8 ((ps.getD i []).getD k 0)] := hM1
    refine ⟨(ps.getD i []).getD k 0, ?_⟩
    rw [hcc k (by show k < _ * 1; omega)]
    have := congrArg (fun l => l[0]?) hq
    simp only [List.getElem?_take, List.getElem?_drop] at this
    simpa using this
/-- One number of a row of one's own made more. -/
theorem own_bump {w : World} {base : Nat} {e : TypeId} {kd : IntKind} {Aw : Option Addr} {L c : Nat} {xs : List Int} (h : w.ownsRow base e 1 (.slice Aw L c) L (nums kd xs)) (hL : xs.length = L) {k : Nat} (hk : k < L) :
    ∃ gw, Aw = some ⟨gw, 0, none⟩ ∧ (∃ z, w.cell? ⟨gw, k, none⟩ = some (.int kd z)) ∧ w.frozen? ⟨gw, k, none⟩ = false ∧ base ≤ gw ∧ (∃ cells, w.heap[gw]? = some (.cells cells e (0, 0))) ∧ ∀ z, ∃ ys : List Int, ys.length = L ∧ (w.setCell ⟨gw, k, none⟩ (.int kd z)).ownsRow base e 1 (.slice Aw L c) L (nums kd ys) := by
  obtain ⟨gw, c2, hv, hb, ⟨cells, hcells⟩, _, hc⟩ := own_at h (by omega)
  injection hv with e1 _ _
  subst e1
  refine ⟨gw, rfl, ⟨xs.getD k 0, ?_⟩, frozen_of_row _ _ _ _ _ hcells, hb, ⟨cells, hcells⟩, fun z => ⟨xs.set k z, by rw [List.length_set]; exact hL, ?_⟩⟩
  · rw [hc k (by omega)]
    unfold nums
    rw [List.getElem?_map, getD_some (by omega) 0]; rfl
  · have := (h.stored k (.int kd z)).1
    have he : (nums kd xs).set k (.int kd z) = nums kd (xs.set k z) := by simp [nums, List.map_set]
    rwa [he] at this
theorem ints_ctr {w : World} {A B : Option Addr} {c d n m : Nat} {x y : List Int} (hn : n = x.length) (hm : m = y.length) (h1 : (Kd.int .i64).C w A n x) (h2 : n ≤ c) (h3 : (Kd.int .i64).C w B m y) (h4 : m ≤ d) : Calls Try.prog 38 #[.slice A n c, .slice B m d] w fun e w' => e = .returned (.bool (decide (x = y))) ∧ ∃ q, w' = w.drewN q := by
  subst hn
  subst hm
  refine (winkleref06_Ints.calls (x.length + 1) A c x B d y _ w h1 h2 h3 h4 (ints_is x y h1.2.1 _ (Nat.lt_succ_self _))).mono ?_
  rintro e w' ⟨rfl, h⟩
  exact ⟨rfl, h.out⟩
theorem depth_word (ps : List Wd) (s : Int) : depthT ps s = ((wordT ps s).length : Int) := by
  unfold depthT wordT depT
  by_cases h : isT (trie ps) s = true
  · rw [if_pos h, if_pos h]
  · rw [if_neg h, if_neg h]; rfl
/-- The longest of the first patterns. -/
def lonTo (ps : List Wd) (i : Nat) : Int := (ps.take i).foldl (fun m p => if m < (p.length : Int) then (p.length : Int) else m) 0
theorem lonTo_succ {ps : List Wd} {i : Nat} (hi : i < ps.length) : lonTo ps (i + 1) = if lonTo ps i < ((ps.getD i []).length : Int) then ((ps.getD i []).length : Int) else lonTo ps i := by
  unfold lonTo
  rw [fold_succ _ _ hi]
theorem lonTo_all (ps : List Wd) : lonTo ps ps.length = longW ps := by unfold lonTo longW; rw [List.take_length]
end Go.Proofs.Ytdciniefkodeaaa.PAll
