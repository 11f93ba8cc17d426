/- A row of fields that the call owns; what a header's line does to it, in plain words. -/
import Derived.Test.YtodidfdfbanliaaQStpHPure
import Derived.Test.YtodidfdfbanliaaQStpPAllx0
set_option linter.unusedVariables false
namespace Go.Proofs.Ytodidfdfbanliaa.PAll
open Go.RowKit Go.Proofs.YtodidfdfbanliaaW.PrintWords
def fcells (fs : List S42) : List Value := fs.flatMap fun f => [.string f.f0, .string f.f1]
theorem fcells_length (fs : List S42) : (fcells fs).length = fs.length * 2 := by
  induction fs with
  | nil => rfl
  | cons f fs ih => simp only [fcells, List.flatMap_cons] at ih ⊢; simp at ih ⊢; omega
theorem fcells_snoc (fs : List S42) (f : S42) : fcells (fs ++ [f]) = fcells fs ++ [.string f.f0, .string f.f1] := by simp [fcells]
theorem fcells_at (fs : List S42) (i : Nat) (h : i < fs.length) : (fcells fs)[2 * i]? = some (.string fs[i].f0) ∧ (fcells fs)[2 * i + 1]? = some (.string fs[i].f1) := by
  induction fs generalizing i with
  | nil => simp at h
  | cons f fs ih =>
    have e : fcells (f :: fs) = .string f.f0 :: .string f.f1 :: fcells fs := by simp [fcells]
    rw [e]
    cases i with
    | zero => simp
    | succ i =>
      have := ih i (by simpa using h)
      rw [show 2 * (i + 1) = 2 * i + 1 + 1 from by omega, show 2 * i + 1 + 1 + 1 = (2 * i + 1) + 1 + 1 from rfl]
      simpa using this
theorem fcells_set (fs : List S42) (i : Nat) (h : i < fs.length) (x : ByteArray) : fcells (fs.set i ⟨fs[i].f0, x⟩) = (fcells fs).set (2 * i + 1) (.string x) := by
  induction fs generalizing i with
  | nil => simp at h
  | cons f fs ih =>
    have e : fcells (f :: fs) = .string f.f0 :: .string f.f1 :: fcells fs := by simp [fcells]
    cases i with
    | zero => simp [fcells]
    | succ i =>
      have := ih i (by simpa using h)
      rw [e, show 2 * (i + 1) + 1 = 2 * i + 1 + 1 + 1 from by omega]
      simp only [List.set_cons_succ, List.getElem_cons_succ]
      rw [← this]
      simp [fcells]
/-- The slice v is a row of the call's own that holds these fields. -/
def OwnF (w : World) (base : Nat) (v : Value) (fs : List S42) : Prop := w.ownsRow base 42 2 v fs.length (fcells fs)
theorem OwnF.nil (w : World) (base : Nat) : OwnF w base (.slice none 0 0) [] := own_nil _ _ _ _
theorem OwnF.toR {w : World} {base : Nat} {v : Value} {fs : List S42} (h : OwnF w base v fs) (ok : Nat → Prop) (hok : ∀ k, v.ownBlock = some k → ok k) : Kd.R k42 42 w base ok v fs := by
  refine ⟨hok, fcells fs, h, ?_⟩
  have : ∀ gs : List S42, Reps (k42.M w base (fun k => ok k ∧ some k ≠ v.ownBlock)) k42.sz gs (fcells gs) := by
    intro gs
    refine ⟨fcells_length gs, fun j p hj => ?_⟩
    obtain ⟨hlt, rfl⟩ := List.getElem?_eq_some_iff.1 hj
    have hc := fcells_at gs j hlt
    have e : ((fcells gs).drop (j * k42.sz)).take k42.sz = [.string gs[j].f0, .string gs[j].f1] := by
      show ((fcells gs).drop (j * 2)).take 2 = _
      apply List.ext_getElem?
      intro i
      rw [List.getElem?_take, List.getElem?_drop]
      match i with
      | 0 => simpa [Nat.mul_comm] using hc.1
      | 1 => simpa [Nat.mul_comm] using hc.2
      | i + 2 => simp; omega
    rw [e]
    exact k42_mkM _ _ _ _
  exact this fs
theorem OwnF.ofR {w : World} {base : Nat} {v : Value} {fs : List S42} {ok : Nat → Prop} (h : Kd.R k42 42 w base ok v fs) : OwnF w base v fs := by
  obtain ⟨_, inner, ho, hr⟩ := h
  have e : inner = fcells fs := by
    have hlen : inner.length = fs.length * 2 := hr.1
    apply List.ext_getElem?
    intro i
    rcases Nat.lt_or_ge i (fs.length * 2) with hi | hi
    · have hj : i / 2 < fs.length := by omega
      have h1 := k42_openM (hr.2 (i / 2) fs[i / 2] (List.getElem?_eq_getElem hj))
      have h2 := congrArg (fun l : List Value => l[i % 2]?) h1
      simp only [List.getElem?_take, List.getElem?_drop] at h2
      rw [if_pos (show i % 2 < k42.sz from Nat.mod_lt _ (by decide))] at h2
      have e2 : i / 2 * k42.sz + i % 2 = i := by show i / 2 * 2 + i % 2 = i; omega
      rw [e2] at h2
      rw [h2]
      have hc := fcells_at fs (i / 2) hj
      rcases Nat.mod_two_eq_zero_or_one i with h0 | h0
      · have e3 : 2 * (i / 2) = i := by omega
        rw [h0]; rw [e3] at hc; simpa using hc.1.symm
      · have e3 : 2 * (i / 2) + 1 = i := by omega
        rw [h0]; rw [e3] at hc; simpa using hc.2.symm
    · rw [List.getElem?_eq_none (by omega), List.getElem?_eq_none (by rw [fcells_length]; omega)]
  rw [e] at ho
  exact ho
section
variable {w w1 : World} {base : Nat} {v : Value} {fs : List S42}
theorem OwnF.below (h : OwnF w base v fs) (hb : Below w.heap.size w w1) : OwnF w1 base v fs := pw_own_below h hb
theorem OwnF.lt (h : OwnF w base v fs) : ∀ k, v.ownBlock = some k → base ≤ k ∧ k < w.heap.size := fun k hk => ⟨own_base h k hk, own_lt h k hk⟩
theorem OwnF.lower {base' : Nat} (h : OwnF w base v fs) (hb : base' ≤ base) : OwnF w base' v fs := own_weaken h hb
theorem OwnF.ne (h : OwnF w base v fs) {b : Nat} {o : Obj} (hb : w.heap[b]? = some o) (ho : ∀ cs fr, o ≠ .cells cs 42 fr) : v.ownBlock ≠ some b := by
  intro e
  obtain ⟨cells, hc⟩ := own_typed h b e
  rw [hb] at hc
  injection hc with hc
  exact ho _ _ hc
theorem OwnF.form (h : OwnF w base v fs) : ∃ A c, v = .slice A fs.length c := own_slice h
/-- A field's two cells. -/
theorem OwnF.cells {A : Option Addr} {c : Nat} (h : OwnF w base (.slice A fs.length c) fs) (i : Nat) (hi : i < fs.length) : ∃ g, A = some ⟨g, 0, none⟩ ∧ w.cell? ⟨g, 2 * i, none⟩ = some (.string fs[i].f0) ∧ w.cell? ⟨g, 2 * i + 1, none⟩ = some (.string fs[i].f1) ∧ w.frozen? ⟨g, 2 * i + 1, none⟩ = false := by
  rcases h.2 with ⟨hv, h0⟩ | ⟨g, cap, cur, hv, hb, hg, hn, hm, hc, ht⟩
  · omega
  · injection hv with h1 h2 h3
    subst h1
    have hat : ∀ j u, (fcells fs)[j]? = some u → w.cell? ⟨g, j, none⟩ = some u := by
      intro j u hu
      rw [← ht, List.getElem?_take] at hu
      split at hu
      · simpa [World.cell?, hg] using hu
      · cases hu
    have hf := fcells_at fs i hi
    exact ⟨g, rfl, hat _ _ hf.1, hat _ _ hf.2, by simp [World.frozen?, hg]⟩
theorem OwnF.setLast {g c : Nat} (h : OwnF w base (.slice (some ⟨g, 0, none⟩) fs.length c) fs) (i : Nat) (hi : i < fs.length) (x : ByteArray) : OwnF (w.setCell ⟨g, 2 * i + 1, none⟩ (.string x)) base (.slice (some ⟨g, 0, none⟩) fs.length c) (fs.set i ⟨fs[i].f0, x⟩) := by
  rcases h.2 with ⟨hv, h0⟩ | ⟨g', cap, cur, hv, hb, hg, hn, hm, hc, ht⟩
  · omega
  · injection hv with h1 h2 h3
    injection h1 with h1
    injection h1 with h1
    subst h1 h3
    refine ⟨by rw [fcells_length], .inr ⟨g, c, cur.setIfInBounds (2 * i + 1) (.string x), by simp, hb, ?_, by simpa using hn, hm, by simpa using hc, ?_⟩⟩
    · simp [World.setCell, Array.getElem?_modify, hg]
    · rw [fcells_set fs i hi, ← ht]
      simp [List.take_set]
end
end Go.Proofs.Ytodidfdfbanliaa.PAll
