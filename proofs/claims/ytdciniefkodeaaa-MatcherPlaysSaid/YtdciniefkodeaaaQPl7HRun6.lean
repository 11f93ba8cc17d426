/- The machine behind a text, plainly; what a walk over it keeps. -/
import Derived.Test.YtdciniefkodeaaaQPl7HKit6
set_option linter.unusedVariables false
set_option linter.unusedSimpArgs false
namespace Go.Proofs.Ytdciniefkodeaaa.PAll
open Go.Sort Go.RowKit Go.Proofs.YtdciniefkodeaaaW.PrintWords Go.Proofs.YtdciniefkodeaaaW.PrintLast Go.Proofs.YtdciniefkodeaaaW.PrintMore
/-- A text that an argument holds. -/
structure TxAt (w : World) (A : Option Addr) (c : Nat) (x : Wd) : Prop where
  reads : (Kd.int .u8).C w A x.length x
  cap : x.length ≤ c
  bytes : ∀ b ∈ x, 0 ≤ b ∧ b ≤ 255
  size : x.length < 140737488355328
theorem TxAt.below {w w1 : World} {A : Option Addr} {c : Nat} {x : Wd} (h : TxAt w A c x) (hb : Below w.heap.size w w1) : TxAt w1 A c x := ⟨Kd.C_below h.reads hb, h.cap, h.bytes, h.size⟩
theorem trie_I (ps : List Wd) : TrieI (trie ps) := by
  refine ⟨trie_nodup ps, trie_closed ps, ?_⟩
  have : ∀ (ps : List Wd) (T : List Wd), T.getD 0 [] = [] → T ≠ [] → (ps.foldl layW T).getD 0 [] = [] := by
    intro ps
    induction ps with
    | nil => intro T h _; exact h
    | cons p r ih =>
      intro T h hne
      have h2 : ∀ k, (layFrom p k T).getD 0 [] = [] ∧ layFrom p k T ≠ [] := by
        intro k
        induction k with
        | zero => exact ⟨h, hne⟩
        | succ k ihk =>
          obtain ⟨i1, i2⟩ := ihk
          rw [layFrom, addW]
          split
          · exact ⟨i1, i2⟩
          · refine ⟨?_, by simp⟩
            have : 0 < (layFrom p k T).length := List.length_pos_iff.2 i2
            rw [getD_append_left _ this]; exact i1
      exact ih _ (h2 p.length).1 (h2 p.length).2
  exact this ps [[]] rfl (by simp)
/-- State s is the one behind this text. -/
def StAt (ps : List Wd) (s : Nat) (x : Wd) : Prop := s < (trie ps).length ∧ (trie ps).getD s [] = lsuf (trie ps) x
theorem st_zero (ps : List Wd) : StAt ps 0 [] := by
  refine ⟨(trie_I ps).pos, ?_⟩
  rw [(trie_I ps).zero]
  rfl
theorem st_isT {ps : List Wd} {s : Nat} (h : s < (trie ps).length) : isT (trie ps) (s : Int) = true := by
  unfold isT
  exact decide_eq_true ⟨by omega, by omega⟩
theorem st_next {ps : List Wd} {s : Nat} {x : Wd} (h : StAt ps s x) (b : Int) : nextT ps s b = ((nxT (trie ps) s b : Nat) : Int) ∧ StAt ps (nxT (trie ps) s b) (x ++ [b]) := by
  have hT := trie_I ps
  refine ⟨by unfold nextT; rw [if_pos (st_isT h.1), Int.toNat_natCast], nx_lt hT s b, ?_⟩
  rw [nx_word hT s b]
  unfold nextW
  rw [h.2, ← lsuf_step hT.closed x b]
theorem out_text {ps : List Wd} (x : Wd) : outsW ps (lsuf (trie ps) x) = outsW ps x := by
  unfold outsW idsW
  congr 1
  apply List.filter_congr
  intro i hi
  rw [decide_eq_decide]
  have hi := List.mem_range.1 hi
  have hp : ps.getD i [] ∈ ps := by rw [List.getD_eq_getElem?_getD, List.getElem?_eq_getElem hi, Option.getD_some]; exact List.getElem_mem _
  exact (ends_text (trie ps) x _ ((mem_trie ps _).2 (.inr ⟨_, hp, List.prefix_refl _⟩))).symm
theorem st_out {ps : List Wd} {s : Nat} {x : Wd} (h : StAt ps s x) : outT ps s = outsW ps x := by
  unfold outT
  rw [if_pos (st_isT h.1), Int.toNat_natCast, h.2, out_text]
theorem text_step {x : Wd} {i : Nat} (hi : i < x.length) : x.take (i + 1) = x.take i ++ [x.getD i 0] := by
  rw [List.take_succ_eq_append_getElem hi, List.getD_eq_getElem?_getD, List.getElem?_eq_getElem hi, Option.getD_some]
theorem text_byte {x : Wd} (h : ∀ b ∈ x, 0 ≤ b ∧ b ≤ 255) {i : Nat} (hi : i < x.length) : 0 ≤ x.getD i 0 ∧ x.getD i 0 ≤ 255 := by
  rw [List.getD_eq_getElem?_getD, List.getElem?_eq_getElem hi, Option.getD_some]
  exact h _ (List.getElem_mem hi)
/-- The slice of a pattern. -/
theorem ps_row {w : World} {A : Option Addr} {c : Nat} {ps : List Wd} (h : PsAt w A c ps) {k : Nat} (hk : k < ps.length) : ∃ ad Ak ck, A = some ad ∧ w.cell? (ad.add k) = some (.slice Ak (ps.getD k []).length ck) ∧ (ps.getD k []).length ≤ ck ∧ (Kd.int .u8).C w Ak (ps.getD k []).length (ps.getD k []) := by
  obtain ⟨ad, cs, e, _, ⟨Ak, ck, rfl, h1, h2⟩, hcell⟩ := Kd.C_get h.reads ([] : Wd) (k : Int) (by omega) (by omega)
  rw [Int.toNat_natCast] at h1 h2 hcell
  have := hcell 0 _ rfl
  rw [show k * (Kd.slice 5 (Kd.int .u8)).sz + 0 = k from Nat.mul_one k] at this
  exact ⟨ad, Ak, ck, e, this, h1, h2⟩
theorem tx_byte {w : World} {A : Option Addr} {c : Nat} {x : Wd} (h : TxAt w A c x) {k : Nat} (hk : k < x.length) : ∃ ad, A = some ad ∧ w.cell? (ad.add k) = some (.int .u8 (x.getD k 0)) := byte_at h.reads hk
theorem ends_ctr {w : World} {A B : Option Addr} {c d n m : Nat} {x y : Wd} (hn : n = x.length) (hm : m = y.length) (h1 : (Kd.int .u8).C w A n x) (h2 : n ≤ c) (h3 : (Kd.int .u8).C w B m y) (h4 : m ≤ d) : Calls Try.prog 23 #[.slice A n c, .slice B m d] w fun e w' => e = .returned (.bool (decide (y <:+ x))) ∧ ∃ q, w' = w.drewN q := by
  subst hn; subst hm
  refine (winkleref06_Ends.calls (x.length + 1) A c x B d y _ w h1 h2 h3 h4 (ends_is x y h1.2.1 _ (Nat.lt_succ_self _))).mono ?_
  rintro e w' ⟨rfl, h⟩
  exact ⟨rfl, h.out⟩
theorem cut_tx {A : Option Addr} {n c k : Nat} (h1 : k ≤ n) (h2 : n ≤ c) : ∀ W : World, (Instr.slice 32 (.slice A n c) none (some (.int .i64 (k : Int))) none).run Try.prog W = .ok (.slice A k c) W := by
  obtain ⟨i0, hi, _, hsz, _⟩ := info_parts info5
  have h := (print_take_of (P := Try.prog) (Value.int .u8) 0 32 5 .i64 Try.underlying32 hi hsz A c (List.replicate n (0 : Int)) (k : Int) (by omega) (by rw [List.length_replicate]; omega) (by rw [List.length_replicate]; exact h2)).1
  intro W
  have h3 := h W
  rw [List.length_replicate, Int.toNat_natCast, List.length_take, List.length_replicate, Nat.min_eq_left h1] at h3
  exact h3
end Go.Proofs.Ytdciniefkodeaaa.PAll
