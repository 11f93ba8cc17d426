/- What PatternsBuilds keeps: the reference's machine beside the machine; the rows that it writes into. -/
import Derived.Test.YtdciniefkodeaaaQPl7HRefBuild
import Derived.Test.YtdciniefkodeaaaQPl7HRun6
import Derived.Test.YtdciniefkodeaaaQPl7HWords6
import Derived.Test.YtdciniefkodeaaaQPl7HLay
import Derived.Test.YtdciniefkodeaaaQPl7HAll
set_option linter.unusedVariables false
set_option linter.unusedSimpArgs false
namespace Go.Proofs.Ytdciniefkodeaaa.PAll
open Go.Sort Go.RowKit Go.Proofs.YtdciniefkodeaaaW.PrintWords Go.Proofs.YtdciniefkodeaaaW.PrintLast Go.Proofs.YtdciniefkodeaaaW.PrintMore
structure CtxV (w wr : World) (g pa : Nat) (A : Option Addr) (c : Nat) (ps : List Wd) : Prop where
  below : Below w.heap.size w wr
  ref : RefAt w wr g A c ps (trie ps)
  mach : MachAt wr pa ps
theorem CtxV.next {w wr w1 : World} {g pa : Nat} {A : Option Addr} {c : Nat} {ps : List Wd} (h : CtxV w wr g pa A c ps) (hb : Below wr.heap.size wr w1) : CtxV w w1 g pa A c ps :=
  ⟨h.below.trans (hb.mono h.below.size), h.ref.next hb, h.mach.below hb⟩
theorem RefAt.moved {w0 w w1 : World} {g : Nat} {A : Option Addr} {c : Nat} {ps T : List Wd} (h : RefAt w0 w g A c ps T) (hb : Below w0.heap.size w0 w1)
    (hm : ∀ (k ty : Nat) (cells : Array Value), w.heap[k]? = some (.cells cells ty (0, 0)) → (ty = 57 ∨ ty = 32 ∨ ty = 92 ∨ ty = 94) → w1.heap[k]? = w.heap[k]?) : RefAt w0 w1 g A c ps T := by
  obtain ⟨vW, vK, wv, kv, K, h1, h2⟩ := h
  exact ⟨vW, vK, wv, kv, K, h1.moved hb hm, h2⟩
/-- One number of a row of one's own made more. -/
theorem own_bump {w : World} {base : Nat} {e : TypeId} {kd : IntKind} {Aw : Option Addr} {L c : Nat} {xs : List Int} (h : w.ownsRow base e 1 (.slice Aw L c) L (nums kd xs)) (hL : xs.length = L) {k : Nat} (hk : k < L) :
    ∃ gw, Aw = some ⟨gw, 0, none⟩ ∧ (∃ z, w.cell? ⟨gw, k, none⟩ = some (.int kd z)) ∧ w.frozen? ⟨gw, k, none⟩ = false ∧ base ≤ gw ∧ (∃ cells, w.heap[gw]? = some (.cells cells e (0, 0))) ∧ ∀ z, ∃ ys : List Int, ys.length = L ∧ (w.setCell ⟨gw, k, none⟩ (.int kd z)).ownsRow base e 1 (.slice Aw L c) L (nums kd ys) := by
  obtain ⟨gw, c2, hv, hb, ⟨cells, hcells⟩, _, hc⟩ := own_at h (by omega)
  injection hv with e1 _ _
  subst e1
  refine ⟨gw, rfl, ⟨xs.getD k 0, ?_⟩, frozen_of_row _ _ _ _ _ hcells, hb, ⟨cells, hcells⟩, fun z => ⟨xs.set k z, by rw [List.length_set]; exact hL, ?_⟩⟩
  · rw [hc k (by omega)]
    unfold nums
    rw [List.getElem?_map, getD_some (by omega) 0]; rfl
  · have := (h.stored k (.int kd z)).1
    have he : (nums kd xs).set k (.int kd z) = nums kd (xs.set k z) := by simp [nums, List.map_set]
    rwa [he] at this
theorem ints_ctr {w : World} {A B : Option Addr} {c d n m : Nat} {x y : List Int} (hn : n = x.length) (hm : m = y.length) (h1 : (Kd.int .i64).C w A n x) (h2 : n ≤ c) (h3 : (Kd.int .i64).C w B m y) (h4 : m ≤ d) : Calls Try.prog 38 #[.slice A n c, .slice B m d] w fun e w' => e = .returned (.bool (decide (x = y))) ∧ ∃ q, w' = w.drewN q := by
  subst hn
  subst hm
  refine (winkleref06_Ints.calls (x.length + 1) A c x B d y _ w h1 h2 h3 h4 (ints_is x y h1.2.1 _ (Nat.lt_succ_self _))).mono ?_
  rintro e w' ⟨rfl, h⟩
  exact ⟨rfl, h.out⟩
end Go.Proofs.Ytdciniefkodeaaa.PAll
