/- The machine behind a text, plainly; what a walk over it keeps. -/
import Derived.Test.YtdciniefkodeaaaQTu6HKit6
set_option linter.unusedVariables false
set_option linter.unusedSimpArgs false
namespace Go.Proofs.Ytdciniefkodeaaa.PAll
open Go.Sort Go.RowKit Go.Proofs.YtdciniefkodeaaaW.PrintWords Go.Proofs.YtdciniefkodeaaaW.PrintLast Go.Proofs.YtdciniefkodeaaaW.PrintMore
/-- A text that an argument holds. -/
structure TxAt (w : World) (A : Option Addr) (c : Nat) (x : Wd) : Prop where
  reads : (Kd.int .u8).C w A x.length x
  cap : x.length ≤ c
  bytes : ∀ b ∈ x, 0 ≤ b ∧ b ≤ 255
  size : x.length < 140737488355328
theorem TxAt.below {w w1 : World} {A : Option Addr} {c : Nat} {x : Wd} (h : TxAt w A c x) (hb : Below w.heap.size w w1) : TxAt w1 A c x := ⟨Kd.C_below h.reads hb, h.cap, h.bytes, h.size⟩
theorem tx_of {w : World} {A : Option Addr} {c : Nat} {x : Wd} (h1 : (Kd.int .u8).C w A x.length x) (h2 : x.length ≤ c) (h3 : ∀ b ∈ x, 0 ≤ b ∧ b ≤ 255) (h4 : x.length * 1 ≤ 140737488351232) : TxAt w A c x := ⟨h1, h2, h3, by omega⟩
theorem trie_I (ps : List Wd) : TrieI (trie ps) := by
  refine ⟨trie_nodup ps, trie_closed ps, ?_⟩
  have : ∀ (ps : List Wd) (T : List Wd), T.getD 0 [] = [] → T ≠ [] → (ps.foldl layW T).getD 0 [] = [] := by
    intro ps
    induction ps with
    | nil => intro T h _; exact h
    | cons p r ih =>
      intro T h hne
      have h2 : ∀ k, (layFrom p k T).getD 0 [] = [] ∧ layFrom p k T ≠ [] := by
        intro k
        induction k with
        | zero => exact ⟨h, hne⟩
        | succ k ihk =>
          obtain ⟨i1, i2⟩ := ihk
          rw [layFrom, addW]
          split
          · exact ⟨i1, i2⟩
          · refine ⟨?_, by simp⟩
            have : 0 < (layFrom p k T).length := List.length_pos_iff.2 i2
            rw [getD_append_left _ this]; exact i1
      exact ih _ (h2 p.length).1 (h2 p.length).2
  exact this ps [[]] rfl (by simp)
/-- State s is the one behind this text. -/
def StAt (ps : List Wd) (s : Nat) (x : Wd) : Prop := s < (trie ps).length ∧ (trie ps).getD s [] = lsuf (trie ps) x
theorem st_zero (ps : List Wd) : StAt ps 0 [] := by
  refine ⟨(trie_I ps).pos, ?_⟩
  rw [(trie_I ps).zero]
  rfl
theorem st_isT {ps : List Wd} {s : Nat} (h : s < (trie ps).length) : isT (trie ps) (s : Int) = true := by
  unfold isT
  exact decide_eq_true ⟨by omega, by omega⟩
theorem st_next {ps : List Wd} {s : Nat} {x : Wd} (h : StAt ps s x) (b : Int) : nextT ps s b = ((nxT (trie ps) s b : Nat) : Int) ∧ StAt ps (nxT (trie ps) s b) (x ++ [b]) := by
  have hT := trie_I ps
  refine ⟨by unfold nextT; rw [if_pos (st_isT h.1), Int.toNat_natCast], nx_lt hT s b, ?_⟩
  rw [nx_word hT s b]
  unfold nextW
  rw [h.2, ← lsuf_step hT.closed x b]
theorem out_text {ps : List Wd} (x : Wd) : outsW ps (lsuf (trie ps) x) = outsW ps x := by
  unfold outsW idsW
  congr 1
  apply List.filter_congr
  intro i hi
  rw [decide_eq_decide]
  have hi := List.mem_range.1 hi
  have hp : ps.getD i [] ∈ ps := by rw [List.getD_eq_getElem?_getD, List.getElem?_eq_getElem hi, Option.getD_some]; exact List.getElem_mem _
  exact (ends_text (trie ps) x _ ((mem_trie ps _).2 (.inr ⟨_, hp, List.prefix_refl _⟩))).symm
theorem st_out {ps : List Wd} {s : Nat} {x : Wd} (h : StAt ps s x) : outT ps s = outsW ps x := by
  unfold outT
  rw [if_pos (st_isT h.1), Int.toNat_natCast, h.2, out_text]
theorem st_word {ps : List Wd} {s : Nat} {x : Wd} (h : StAt ps s x) : wordT ps s = lsuf (trie ps) x ∧ depthT ps s = ((lsuf (trie ps) x).length : Int) := by
  unfold wordT depthT depT
  rw [if_pos (st_isT h.1), if_pos (st_isT h.1), Int.toNat_natCast, h.2]
  exact ⟨rfl, rfl⟩
theorem text_step {x : Wd} {i : Nat} (hi : i < x.length) : x.take (i + 1) = x.take i ++ [x.getD i 0] := by
  rw [List.take_succ_eq_append_getElem hi, List.getD_eq_getElem?_getD, List.getElem?_eq_getElem hi, Option.getD_some]
theorem text_byte {x : Wd} (h : ∀ b ∈ x, 0 ≤ b ∧ b ≤ 255) {i : Nat} (hi : i < x.length) : 0 ≤ x.getD i 0 ∧ x.getD i 0 ≤ 255 := by
  rw [List.getD_eq_getElem?_getD, List.getElem?_eq_getElem hi, Option.getD_some]
  exact h _ (List.getElem_mem hi)
theorem tx_byte {w : World} {A : Option Addr} {c : Nat} {x : Wd} (h : TxAt w A c x) {k : Nat} (hk : k < x.length) : ∃ ad, A = some ad ∧ w.cell? (ad.add k) = some (.int .u8 (x.getD k 0)) := byte_at h.reads hk
end Go.Proofs.Ytdciniefkodeaaa.PAll
