/- (*Run).line of the reference: one more line of a header (lineR), into a run that the call itself made. -/
import Derived.Lib.Hide
import Derived.Lib.OthersKept
import Derived.Deep.RegionHeld3
import Derived.Deep.AppendLies
import Derived.Deep.DrawnRows
import Derived.StillTailTactics
import Derived.Test.YtodidfdfbanliaaQBckHHead
import Derived.Test.YtodidfdfbanliaaQBckHSem1
import Derived.Test.YtodidfdfbanliaaQBckPAllx0
import Derived.Test.YtodidfdfbanliaaQBckFHead
set_option linter.unusedVariables false
set_option linter.unusedSimpArgs false
namespace Go.Proofs.Ytodidfdfbanliaa.PAll
open Go.RowKit Go.Proofs.YtodidfdfbanliaaW.PrintWords Go.Proofs.YtodidfdfbanliaaW.PrintLast Go.Proofs.YtodidfdfbanliaaW.PrintMore
theorem takeWhile_at (l : List UInt8) (n : Nat) (h : n ≤ l.length) (ha : ∀ i (hi : i < l.length), i < n → okName l[i] = true) (hs : ∀ hn : n < l.length, okName l[n] = false) : (l.takeWhile okName).length = n := by
  induction l generalizing n with
  | nil => simp at h ⊢; omega
  | cons c l ih =>
    cases n with
    | zero => have h0 : okName c = false := hs (by simp); simp [h0]
    | succ n =>
      have h0 : okName c = true := ha 0 (by simp) (by omega)
      rw [List.takeWhile_cons_of_pos h0, List.length_cons]
      rw [ih n (by simpa using h) (fun i hi hin => by have := ha (i + 1) (by simpa using hi) (by omega); simpa using this) (fun hn => by have := hs (by simpa using hn); simpa using this)]
theorem okName_int (c : UInt8) : okName c = (decide ((c.toNat : Int) ≥ 33) && decide ((c.toNat : Int) ≤ 126) && decide ((c.toNat : Int) ≠ 58)) :=
  by_bytes (p := fun i c => okName c = (decide (i ≥ 33) && decide (i ≤ 126) && decide (i ≠ 58))) (by decide +kernel) c
theorem nameL_of (s : ByteArray) (n : Nat) (h : n ≤ s.size) (ha : ∀ i (hi : i < s.size), i < n → okName s[i] = true) (hs : ∀ hn : n < s.size, okName s[n] = false) : nameL s.data.toList = if s.data.toList[n]? = some 58 then n else 0 := by
  have e : (s.data.toList.takeWhile okName).length = n := takeWhile_at _ n (by simpa using h) (fun i hi hin => ha i (by simpa using hi) hin) (fun hn => hs (by simpa using hn))
  unfold nameL; rw [e]
theorem OwnF.setOther {w : World} {base b : Nat} {v : Value} {fs : List S42} (h : OwnF w base v fs) (hne : v.ownBlock ≠ some b) (j : Nat) (u : Value) : OwnF (w.setCell ⟨b, j, none⟩ u) base v fs :=
  h.kept (row := some b) ⟨rfl, rfl, rfl, by simp [World.setCell], fun k hk hkb => Below.heap_setCell _ _ _ _ (fun e => hkb (by rw [e]))⟩ (.inr hne)
theorem firstBl_at (s : ByteArray) (h : 0 < s.size) : firstBl s = isBl s[0] := by
  unfold firstBl
  have e := drop_cons_at s 0 h
  rw [List.drop_zero] at e
  rw [e]
/-- What stands at the last field, for the walk. -/
theorem last_cells {w : World} {base : Nat} {A : Option Addr} {c m : Nat} {fs : List S42} (hm : fs.length = m + 1) (h : OwnF w base (.slice A fs.length c) fs) : ∃ g, A = some ⟨g, 0, none⟩ ∧ w.cell? ⟨g, m * 2 + 1, none⟩ = some (.string (fs.getD (fs.length - 1) zS).f1) ∧ w.frozen? ⟨g, m * 2 + 1, none⟩ = false ∧ m + 1 ≤ c ∧
    ∀ x, OwnF (w.setCell ⟨g, m * 2 + 1, none⟩ (.string x)) base (.slice A fs.length c) (fs.set (fs.length - 1) ⟨(fs.getD (fs.length - 1) zS).f0, x⟩) := by
  obtain ⟨g, hA, h0, h1, hf⟩ := h.cells m (by omega)
  have e : fs.length - 1 = m := by omega
  have e2 : fs.getD m zS = fs[m] := by simp [List.getD_eq_getElem?_getD, show m < fs.length by omega]
  subst hA
  rw [e, e2, show m * 2 + 1 = 2 * m + 1 from by omega]
  refine ⟨g, rfl, h1, hf, ?_, fun x => h.setLast m (by omega) x⟩
  rcases h.2 with ⟨hv, h0⟩ | ⟨g', cap, cur, hv, hb, hg, hn, hm, hc, ht⟩
  · omega
  · injection hv with _ _ h3; omega
theorem cell_alloc_drew {w : World} {p : Addr} {v : Value} {o : Obj} (h : w.drew.cell? p = some v) : ((w.alloc o).drew).cell? p = some v :=
  pw_cell_below (w := w) ((Below.refl _ w).alloc (Nat.le_refl _) o).drew h
theorem OwnF.drew_alloc {w : World} {base : Nat} {v : Value} {fs : List S42} (h : OwnF w base v fs) (o : Obj) : (w.drew.alloc o).ownsRow base 42 2 v fs.length (fcells fs) :=
  pw_own_below h ((Below.refl _ w).drew.alloc (Nat.le_refl _) o)
end Go.Proofs.Ytodidfdfbanliaa.PAll
