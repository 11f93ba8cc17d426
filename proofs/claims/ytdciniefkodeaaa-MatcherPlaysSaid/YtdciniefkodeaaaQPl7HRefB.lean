/- What each store of the reference's Build leaves. -/
import Derived.Deep.AppendLies
import Derived.Test.YtdciniefkodeaaaQPl7HRefX
import Derived.Test.YtdciniefkodeaaaQPl7HMat2
set_option linter.unusedVariables false
set_option linter.unusedSimpArgs false
namespace Go.Proofs.Ytdciniefkodeaaa.PAll
open Go.Sort Go.RowKit Go.Proofs.YtdciniefkodeaaaW.PrintWords Go.Proofs.YtdciniefkodeaaaW.PrintLast Go.Proofs.YtdciniefkodeaaaW.PrintMore
theorem info94 : (Try.prog.info? 94).map (fun i => (i.zero, i.size, i.bytes)) = some (some (.agg #[.int .u8 0, .int .i64 0]), 2, 16) := by kernel_rfl
theorem info92 : (Try.prog.info? 92).map (fun i => (i.zero, i.size, i.bytes)) = some (some (.slice none 0 0), 1, 24) := by kernel_rfl
theorem trieI_add {T : List Wd} (h : TrieI T) {s : Nat} (hs : s < T.length) {b : Int} (hw : T.getD s [] ++ [b] ∉ T) : TrieI (T ++ [T.getD s [] ++ [b]]) := by
  refine ⟨?_, ⟨List.mem_append_left _ h.closed.1, fun x c hx => ?_⟩, ?_⟩
  · rw [List.nodup_append]
    exact ⟨h.nodup, by simp, fun a ha c hc e => by rw [List.mem_singleton.1 hc] at e; exact hw (e ▸ ha)⟩
  · rcases List.mem_append.1 hx with hx | hx
    · exact List.mem_append_left _ (h.closed.2 _ _ hx)
    · have e := (snoc_inj (List.mem_singleton.1 hx)).1
      rw [e]
      exact List.mem_append_left _ (get_mem hs)
  · rw [getD_append_left _ h.pos]; exact h.zero
section
variable {w0 w W w1 : World} {g : Nat} {A : Option Addr} {n c : Nat} {vW vK : Value} {wv kv : List Value} {T : List Wd} {K : List (List (Int × Int))}
/-- Blocks of another type than the grown one stay. -/
theorem kept_type {e size m : Nat} {v : Value} {xs : List Value} (ho : w.ownsRow w0.heap.size e size v m xs) (hW : Below w.heap.size w W) (hg : W.grownBy w1 v.ownBlock) {k ty : Nat} {cells : Array Value} (hk : w.heap[k]? = some (.cells cells ty (0, 0))) (hne : ty ≠ e) : w1.heap[k]? = w.heap[k]? := by
  have hlt := (Array.getElem?_eq_some_iff.1 hk).1
  rw [hg.block k (Nat.lt_of_lt_of_le hlt hW.size) (fun e2 => by
    obtain ⟨c2, hc2⟩ := own_typed ho k e2.symm
    exact absurd rfl (ne_of_types hk hc2 hne))]
  exact hW.block k hlt
theorem own_kept {e size m e2 size2 m2 : Nat} {v v2 : Value} {xs xs2 : List Value} (ho : w.ownsRow w0.heap.size e size v m xs) (hW : Below w.heap.size w W) (hg : W.grownBy w1 v.ownBlock) (h2 : w.ownsRow w0.heap.size e2 size2 v2 m2 xs2) (hne : e2 ≠ e) : w1.ownsRow w0.heap.size e2 size2 v2 m2 xs2 :=
  own_move h2 fun k hk => by
    obtain ⟨cells, hc⟩ := own_typed h2 k hk
    exact kept_type ho hW hg hc hne
theorem own_set {e size m : Nat} {v : Value} {xs : List Value} {gx ty j : Nat} {cells : Array Value} {u : Value} (h : w.ownsRow w0.heap.size e size v m xs) (hb : w.heap[gx]? = some (.cells cells ty (0, 0))) (hne : e ≠ ty) : (w.setCell ⟨gx, j, none⟩ u).ownsRow w0.heap.size e size v m xs :=
  own_move h fun k hk => Below.heap_setCell w ⟨gx, j, none⟩ u k (by
    obtain ⟨c2, hc2⟩ := own_typed h k hk
    exact ne_of_types hc2 hb hne)
theorem below_grown_set {gx j : Nat} {u v : Value} {e size m : Nat} {xs : List Value} (hb : Below w0.heap.size w0 w) (ho : w.ownsRow w0.heap.size e size v m xs) (hW : Below w.heap.size w W) (hg : W.grownBy w1 v.ownBlock) (hgx : w0.heap.size ≤ gx) : Below w0.heap.size w0 (w1.setCell ⟨gx, j, none⟩ u) := by
  have b1 : Below w0.heap.size w0 W := hb.trans (hW.mono hb.size)
  have b2 := b1.grown hg b1.size (fun k e => own_base ho k e)
  exact b2.grown (grown_set0 gx j u) b2.size (fun k e => by rw [← Option.some.inj e]; exact hgx)
theorem RefRaw.kidPush (h : RefRaw w0 w g A n c vW vK wv kv T K) {s : Nat} (hs : s < K.length) (hW : Below w.heap.size w W) (hg : W.grownBy w1 (kv.getD s undef).ownBlock) {v' : Value} {b t : Int}
    (ho : w1.ownsRow w0.heap.size 94 2 v' ((K.getD s []).length + 1) (flatK (K.getD s []) ++ kidC b t)) (hat : v'.ownBlock = (kv.getD s undef).ownBlock ∨ ∃ k, v'.ownBlock = some k ∧ W.heap.size ≤ k) {gK cK : Nat} (hK : vK = .slice (some ⟨gK, 0, none⟩) K.length cK) :
    RefRaw w0 (w1.setCell ⟨gK, s, none⟩ v') g A n c vW vK wv (kv.set s v') T (K.set s (K.getD s [] ++ [(b, t)])) := by
  have hk := h.kid s hs
  have hko := h.kown
  rw [hK] at hko
  obtain ⟨gK2, cK2, e, hgb, ⟨cellsK, hgK⟩, _, _⟩ := own_at hko (by omega)
  injection e with e1 _ e3
  injection e1 with e1
  injection e1 with e1 _ _
  subst e1
  have hgK1 : w1.heap[gK]? = some (.cells cellsK 92 (0, 0)) := (kept_type hk hW hg hgK (by decide)).trans hgK
  have hg1 : w1.heap[g]? = some (.cells #[.slice A n c, vW, vK] 57 (0, 0)) := (kept_type hk hW hg h.blk (by decide)).trans h.blk
  have hne : g ≠ gK := ne_of_types h.blk hgK (by decide)
  have hko1 := own_kept hk hW hg hko (by decide)
  have hst := hko1.stored s v'
  refine ⟨below_grown_set h.below hk hW hg hgb, h.gb, ?_, h.wl, own_set (own_kept hk hW hg h.wown (by decide)) hgK1 (by decide), h.word, by rw [List.length_set, List.length_set]; exact h.kl, ?_, fun t' ht' => ?_, fun s' t' k hs' ht' hst' hb' hc' => ?_⟩
  · rw [Below.heap_setCell w1 ⟨gK, s, none⟩ v' g hne]; exact hg1
  · rw [hK, List.length_set]; exact hst.1
  · rw [List.length_set] at ht'
    by_cases e : t' = s
    · subst e
      rw [getD_set_self _ _ _ (by rw [h.kl]; exact hs), getD_set_self _ _ _ hs, List.length_append, flatK_snoc]
      exact own_set ho hgK1 (by decide)
    · rw [getD_set_ne _ _ _ (Ne.symm e), getD_set_ne _ _ _ (Ne.symm e)]
      have h2 := h.kid t' ht'
      refine own_set (own_move h2 fun k hk2 => ?_) hgK1 (by decide)
      have hlt := own_lt h2 k hk2
      rw [hg.block k (Nat.lt_of_lt_of_le hlt hW.size) (fun e2 => h.apart t' s k ht' hs e hk2 e2.symm)]
      exact hW.block k hlt
  · rw [List.length_set] at hs' ht'
    have key : ∀ t', t' < K.length → t' ≠ s → ∀ k, v'.ownBlock = some k → (kv.getD t' undef).ownBlock ≠ some k := fun t' ht' hne' k hk1 hk2 => by
      rcases hat with hat | ⟨k2, hk3, hk4⟩
      · rw [hat] at hk1
        exact h.apart s t' k hs ht' (Ne.symm hne') hk1 hk2
      · rw [hk3] at hk1
        have := own_lt (h.kid t' ht') k hk2
        have h2 := hW.size
        injection hk1 with hk1
        omega
    by_cases e1 : s' = s
    · subst e1
      rw [getD_set_self _ _ _ (by rw [h.kl]; exact hs)] at hb'
      rw [getD_set_ne _ _ _ hst'] at hc'
      exact key t' ht' (Ne.symm hst') k hb' hc'
    · by_cases e2 : t' = s
      · subst e2
        rw [getD_set_self _ _ _ (by rw [h.kl]; exact hs)] at hc'
        rw [getD_set_ne _ _ _ (Ne.symm e1)] at hb'
        exact key s' hs' e1 k hc' hb'
      · rw [getD_set_ne _ _ _ (Ne.symm e1)] at hb'
        rw [getD_set_ne _ _ _ (Ne.symm e2)] at hc'
        exact h.apart s' t' k hs' ht' hst' hb' hc'
theorem setCell_blk {g j ty : Nat} {cells : Array Value} {u : Value} (h : w.heap[g]? = some (.cells cells ty (0, 0))) : (w.setCell ⟨g, j, none⟩ u).heap[g]? = some (.cells (cells.setIfInBounds j u) ty (0, 0)) := heap_setCell_same w g j cells ty u h
theorem RefRaw.wordPush (h : RefRaw w0 w g A n c vW vK wv kv T K) (hW : Below w.heap.size w W) (hg : W.grownBy w1 vW.ownBlock) {vW' u : Value} {x : Wd} (ho : w1.ownsRow w0.heap.size 32 1 vW' (T.length + 1) (wv ++ [u]))
    (hu : ∃ A' c', u = .slice A' x.length c' ∧ x.length ≤ c' ∧ (Kd.int .u8).C w0 A' x.length x) : RefRaw w0 (w1.setCell ⟨g, 1, none⟩ vW') g A n c vW' vK (wv ++ [u]) kv (T ++ [x]) K := by
  have hk := h.wown
  have hg1 : w1.heap[g]? = some (.cells #[.slice A n c, vW, vK] 57 (0, 0)) := (kept_type hk hW hg h.blk (by decide)).trans h.blk
  refine ⟨below_grown_set h.below hk hW hg h.gb, h.gb, by rw [setCell_blk hg1]; rfl, by rw [List.length_append, List.length_append, h.wl]; rfl, ?_, fun s hs => ?_, h.kl, own_set (own_kept hk hW hg h.kown (by decide)) hg1 (by decide), fun s hs => own_set (own_kept hk hW hg (h.kid s hs) (by decide)) hg1 (by decide), h.apart⟩
  · rw [List.length_append]; exact own_set ho hg1 (by decide)
  · rw [List.length_append] at hs
    have hs : s < T.length + 1 := hs
    by_cases h1 : s < T.length
    · rw [getD_append_left _ h1, getD_left _ _ _ (by rw [h.wl]; exact h1)]; exact h.word s h1
    · obtain rfl : s = T.length := by omega
      rw [getD_append_last, ← h.wl, getD_last]; exact hu
theorem RefRaw.kidNew (h : RefRaw w0 w g A n c vW vK wv kv T K) (hW : Below w.heap.size w W) (hg : W.grownBy w1 vK.ownBlock) {vK' : Value} (ho : w1.ownsRow w0.heap.size 92 1 vK' (K.length + 1) (kv ++ [.slice none 0 0])) :
    RefRaw w0 (w1.setCell ⟨g, 2, none⟩ vK') g A n c vW vK' wv (kv ++ [.slice none 0 0]) T (K ++ [[]]) := by
  have hk := h.kown
  have hg1 : w1.heap[g]? = some (.cells #[.slice A n c, vW, vK] 57 (0, 0)) := (kept_type hk hW hg h.blk (by decide)).trans h.blk
  have hgl : ∀ {s}, s < K.length → (kv ++ [(.slice none 0 0 : Value)]).getD s undef = kv.getD s undef := fun hs => getD_left _ _ _ (by rw [h.kl]; exact hs)
  have hll : (kv ++ [(.slice none 0 0 : Value)]).getD K.length undef = .slice none 0 0 := by rw [← h.kl]; exact getD_last _ _ _
  refine ⟨below_grown_set h.below hk hW hg h.gb, h.gb, by rw [setCell_blk hg1]; rfl, h.wl, own_set (own_kept hk hW hg h.wown (by decide)) hg1 (by decide), h.word, by rw [List.length_append, List.length_append, h.kl]; rfl, ?_, fun s hs => ?_, fun s t k hs ht hst hb hc => ?_⟩
  · rw [List.length_append]; exact own_set ho hg1 (by decide)
  · rw [List.length_append] at hs
    have hs : s < K.length + 1 := hs
    by_cases h1 : s < K.length
    · rw [hgl h1, getD_left _ _ _ h1]; exact own_set (own_kept hk hW hg (h.kid s h1) (by decide)) hg1 (by decide)
    · obtain rfl : s = K.length := by omega
      rw [hll, getD_last]
      exact ⟨rfl, .inl ⟨rfl, rfl⟩⟩
  · rw [List.length_append] at hs ht
    have hs : s < K.length + 1 := hs
    have ht : t < K.length + 1 := ht
    by_cases h1 : s < K.length
    · by_cases h2 : t < K.length
      · rw [hgl h1] at hb
        rw [hgl h2] at hc
        exact h.apart s t k h1 h2 hst hb hc
      · obtain rfl : t = K.length := by omega
        rw [hll] at hc
        cases hc
    · obtain rfl : s = K.length := by omega
      rw [hll] at hb
      cases hb
end
end Go.Proofs.Ytdciniefkodeaaa.PAll
