/- EntityPlans and EntityFirst, the plain laws, where the fields' bulk is small. -/
import Derived.Test.YtodidfdfbanliaaQEfiHPlan
import Derived.Test.YtodidfdfbanliaaQEfiPAllx0
import Derived.Test.YtodidfdfbanliaaQEfiHSem1
import Derived.Test.YtodidfdfbanliaaQEfiPAllx2
import Derived.Test.YtodidfdfbanliaaQEfiPAllx3
import Derived.Test.YtodidfdfbanliaaQEfiFLow
import Derived.Test.YtodidfdfbanliaaQEfiFPlanM
import Derived.Test.YtodidfdfbanliaaQEfiFAwakeE
import Derived.Test.YtodidfdfbanliaaQEfiLEntityFirst
set_option linter.unusedVariables false
set_option linter.unusedSimpArgs false
namespace Go.Proofs.Ytodidfdfbanliaa.PAll
open Go.RowKit Go.Proofs.YtodidfdfbanliaaW.PrintWords Go.Proofs.YtodidfdfbanliaaW.PrintLast Go.Proofs.YtodidfdfbanliaaW.PrintMore
theorem awake19_ev : Ev (fun k => winklelaw19_awake.f k) true := Ev.of winklelaw19_awake.mono (k := 120) (by decide +kernel)
def xPre (g : S42) : S42 := ⟨(⟨#[88, 45]⟩ : ByteArray) ++ g.f0, g.f1⟩
def txt (f : S42) : S42 := ⟨f.f0, ⟨#[116, 101, 120, 116, 47, 120]⟩⟩
def mixF : List S42 → List S42 → List S42
  | [], _ => []
  | f :: fs, [] => f :: mixF fs []
  | f :: fs, g :: gs => xPre g :: f :: mixF fs gs
theorem xPre_not (a : ByteArray) (h : (lowL a.data.toList).head? = some 99) (g : S42) : isName a (xPre g) = false := by
  unfold isName sameL xPre
  rw [beq_eq_false_iff_ne]
  intro e
  rw [← e] at h
  have : lowC 88 = 120 := by decide
  simp [lowL, this] at h
theorem mixF_find (a : ByteArray) (h : (lowL a.data.toList).head? = some 99) (F : List S42) : ∀ G : List S42, (mixF F G).find? (isName a) = F.find? (isName a) := by
  induction F with
  | nil => intro G; cases G <;> rfl
  | cons f F ih =>
    intro G
    cases G with
    | nil => rw [mixF, List.find?_cons, List.find?_cons, ih]
    | cons g G => rw [mixF, List.find?_cons, xPre_not a h, List.find?_cons, List.find?_cons, ih]
theorem mixF_mem (F : List S42) : ∀ (G : List S42) (f : S42), f ∈ mixF F G → f ∈ F ∨ ∃ g ∈ G, f = xPre g := by
  induction F with
  | nil => intro G f hf; cases G <;> simp [mixF] at hf
  | cons x F ih =>
    intro G f hf
    cases G with
    | nil =>
      rw [mixF] at hf
      rcases List.mem_cons.1 hf with rfl | hf
      · exact .inl (by simp)
      · rcases ih _ _ hf with h | ⟨g, hg, _⟩
        · exact .inl (by simp [h])
        · cases hg
    | cons g G =>
      rw [mixF] at hf
      rcases List.mem_cons.1 hf with rfl | hf
      · exact .inr ⟨g, by simp, rfl⟩
      · rcases List.mem_cons.1 hf with rfl | hf
        · exact .inl (by simp)
        · rcases ih _ _ hf with h | ⟨y, hy, e⟩
          · exact .inl (by simp [h])
          · exact .inr ⟨y, by simp [hy], e⟩
theorem first_get (F G : List S42) (a : ByteArray) (h : (lowL a.data.toList).head? = some 99) : getL (mixF F G ++ F.map txt) a = getL F a := by
  unfold getL
  rw [List.find?_append, mixF_find a h]
  cases hf : F.find? (isName a) with
  | some f => rfl
  | none =>
    have : (F.map txt).find? (isName a) = none := by
      rw [List.find?_eq_none] at hf ⊢
      intro x hx
      obtain ⟨f, hm, rfl⟩ := List.mem_map.1 hx
      exact hf f hm
    rw [this]; rfl
theorem first_plan (F G : List S42) : planR (mixF F G ++ F.map txt) = planR F := by
  unfold planR
  rw [first_get F G encName (by decide +kernel), first_get F G typName (by decide +kernel)]
theorem rdE_at (l : List S42) (k : Nat) (h : k < l.length) : rd_T42 l (k : Int) = l[k] := by
  simp [rd_T42, List.getD_eq_getElem?_getD, List.getElem?_eq_getElem h]
theorem first_tail (F all : List S42) (P : Int × Int × ByteArray × Int) (h : Ev (fun k => entity_Plan.f k all) P) : Ev (fun k => (entity_Plan.f k all).bind fun bt555 => (if (bt555.1 == P.1 && (bt555.2.1 == P.2.1 && (bt555.2.2.1.toList == P.2.2.1.toList && (bt555.2.2.2 == P.2.2.2)))) = true then ((winklelaw19_awake.f k).bind fun t559 => (some t559)) else (some false))) true := by
  refine Ev.bind (f := fun k bt555 => _) h ?_
  refine Ev.congr (fun k => if_pos (by simp)) ?_
  exact Ev.bind (f := fun _ t => some t) awake19_ev (Ev.now _)
theorem first_l1 (F : List S42) (P : Int × Int × ByteArray × Int) (hl : F.length ≤ 1048576) (d : Nat) : ∀ (i : Nat) (acc : List S42), i ≤ F.length → F.length - i = d → acc.length ≤ 2097152 + i → Ev (fun k => entity_Plan.f k (acc ++ (F.drop i).map txt)) P →
    Ev (fun k => winklelaw19_EntityFirst.l1 k F acc (i : Int) P.1 P.2.1 P.2.2.1 P.2.2.2) true := by
  induction d with
  | zero =>
    intro i acc hi hd ha h
    rw [List.drop_of_length_le (by omega), List.map_nil, List.append_nil] at h
    refine Ev.step (fun k => ?_) (first_tail F acc P h)
    rw [winklelaw19_EntityFirst.l1, if_neg (by omega)]
  | succ d ih =>
    intro i acc hi hd ha h
    have hlt : i < F.length := by omega
    have hW := Lib.hid (wrap_succ i F.length hlt (by omega))
    rw [List.drop_eq_getElem_cons hlt, List.map_cons] at h
    refine Ev.step (f := fun k => winklelaw19_EntityFirst.l1 k F (acc ++ [txt F[i]]) ((i + 1 : Nat) : Int) P.1 P.2.1 P.2.2.1 P.2.2.2) (fun k => ?_) (ih (i + 1) (acc ++ [txt F[i]]) (by omega) (by omega) (by simp; omega) (by simpa using h))
    rw [winklelaw19_EntityFirst.l1, if_pos (by omega), if_pos (by omega), if_pos (by omega), rdE_at F i hlt, hW.out]; rfl
theorem first_l0 (F G : List S42) (P : Int × Int × ByteArray × Int) (hl : F.length ≤ 1048576) (hg : ∀ g ∈ G, g.f0.size ≤ 1048576) (h : Ev (fun k => entity_Plan.f k (mixF F G ++ F.map txt)) P) (d : Nat) : ∀ (i : Nat) (acc : List S42), i ≤ F.length → F.length - i = d → acc.length ≤ 2 * i → acc ++ mixF (F.drop i) (G.drop i) = mixF F G →
    Ev (fun k => winklelaw19_EntityFirst.l0 k F G acc (i : Int) P.1 P.2.1 P.2.2.1 P.2.2.2) true := by
  induction d with
  | zero =>
    intro i acc hi hd ha e
    have : F.drop i = [] := List.drop_of_length_le (by omega)
    rw [this] at e
    have e2 : acc = mixF F G := by rw [← e]; cases G.drop i <;> simp [mixF]
    refine Ev.step (fun k => ?_) (first_l1 F P hl F.length 0 acc (by omega) (by omega) (by omega) (by rw [List.drop_zero, e2]; exact h))
    rw [winklelaw19_EntityFirst.l0, if_neg (by omega)]; rfl
  | succ d ih =>
    intro i acc hi hd ha e
    have hlt : i < F.length := by omega
    have hW := Lib.hid (wrap_succ i F.length hlt (by omega))
    rw [List.drop_eq_getElem_cons hlt] at e
    by_cases hG : i < G.length
    · rw [List.drop_eq_getElem_cons hG, mixF] at e
      have hgs := hg G[i] (List.getElem_mem hG)
      refine Ev.step (f := fun k => winklelaw19_EntityFirst.l0 k F G (acc ++ [xPre G[i]] ++ [F[i]]) ((i + 1 : Nat) : Int) P.1 P.2.1 P.2.2.1 P.2.2.2) (fun k => ?_) (ih (i + 1) (acc ++ [xPre G[i]] ++ [F[i]]) (by omega) (by omega) (by simp; omega) (by simpa using e))
      rw [winklelaw19_EntityFirst.l0, if_pos (by omega), if_pos (by omega), if_pos (by omega), rdE_at F i hlt, rdE_at G i hG, if_pos (by omega), if_pos (by omega), Option.bind_some, if_pos (by simp; omega), hW.out]; rfl
    · have eG : G.drop i = [] := List.drop_of_length_le (by omega)
      rw [eG, mixF] at e
      refine Ev.step (f := fun k => winklelaw19_EntityFirst.l0 k F G (acc ++ [F[i]]) ((i + 1 : Nat) : Int) P.1 P.2.1 P.2.2.1 P.2.2.2) (fun k => ?_) (ih (i + 1) (acc ++ [F[i]]) (by omega) (by omega) (by simp; omega) (by have e3 : G.drop (i + 1) = [] := List.drop_of_length_le (by omega); rw [e3]; simpa using e))
      rw [winklelaw19_EntityFirst.l0, if_pos (by omega), if_neg (by omega), if_pos (by omega), rdE_at F i hlt, if_pos (by omega), hW.out]
theorem first_pure (F G : List S42) (hs : ∀ f ∈ F, f.f0.size ≤ 1048576 ∧ f.f1.size ≤ 1048576) (hl : F.length ≤ 1048576) (hg : ∀ f ∈ G, f.f0.size ≤ 1048576 ∧ f.f1.size ≤ 1048576) : ∃ k, winklelaw19_EntityFirst.f k F G = some true := by
  have p1 := plan_ev F (fun f hf => by have := (hs f hf).1; omega) (fun f hf => by have := (hs f hf).2; omega)
  have hall : ∀ f ∈ mixF F G ++ F.map txt, f.f0.size ≤ 9223372036854775807 ∧ f.f1.size ≤ 4398046511104 := by
    intro f hf
    rcases List.mem_append.1 hf with hf | hf
    · rcases mixF_mem F G f hf with h | ⟨g, hg2, rfl⟩
      · have := hs f h; omega
      · have := hg g hg2
        have e : (xPre g).f0.size = 2 + g.f0.size := by show ((⟨#[88, 45]⟩ : ByteArray) ++ g.f0).size = _; rw [ByteArray.size_append]; rfl
        have e2 : (xPre g).f1 = g.f1 := rfl
        rw [e, e2]; omega
    · obtain ⟨x, hx, rfl⟩ := List.mem_map.1 hf
      have := hs x hx
      have e : (txt x).f0 = x.f0 := rfl
      have e2 : (txt x).f1.size = 6 := rfl
      rw [e, e2]; omega
  have p2 := plan_ev (mixF F G ++ F.map txt) (fun f hf => (hall f hf).1) (fun f hf => (hall f hf).2)
  rw [first_plan] at p2
  have h0 := first_l0 F G (planR F) hl (fun g hg2 => (hg g hg2).1) p2 F.length 0 [] (by omega) (by omega) (by simp) (by simp)
  have : Ev (fun k => winklelaw19_EntityFirst.f k F G) true := by
    unfold winklelaw19_EntityFirst.f
    exact Ev.bind (f := fun k bt533 => winklelaw19_EntityFirst.l0 k F G ([] : List S42) 0 bt533.1 bt533.2.1 bt533.2.2.1 bt533.2.2.2) p1 h0
  exact this.rounds
end Go.Proofs.Ytodidfdfbanliaa.PAll
