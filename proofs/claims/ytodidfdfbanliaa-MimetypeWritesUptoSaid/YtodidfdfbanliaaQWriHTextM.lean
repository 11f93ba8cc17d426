/- What mimetype.Text comes to. -/
import Derived.Lib.Hide
import Derived.Test.YtodidfdfbanliaaQWriHForms
import Derived.Test.YtodidfdfbanliaaQWriFText
set_option linter.unusedVariables false
set_option linter.unusedSimpArgs false
namespace Go.Proofs.Ytodidfdfbanliaa.PAll
open Go.RowKit Go.Proofs.YtodidfdfbanliaaW.PrintWords Go.Proofs.YtodidfdfbanliaaW.PrintLast Go.Proofs.YtodidfdfbanliaaW.PrintMore
def txtR (m u : ByteArray) (l : List S42) : ByteArray × Bool := if goodT m u l = true then (textB m u l, true) else (⟨#[]⟩, false)
theorem rdOf_at (l : List ByteArray) (k : Nat) (h : k < l.length) : rdOf ByteArray.empty l (k : Int) = l[k] := by
  simp [rdOf, List.getD_eq_getElem?_getD, List.getElem?_eq_getElem h]
def goodB (w : ByteArray) : Bool := goodL w.data.toList
def l1R (x5 : ByteArray) (b : Bool) : ByteArray × Bool := if b = true then (x5, true) else (⟨#[]⟩, false)
theorem lower_some' (a : ByteArray) (h : a.size < 140737488355328) : mimetype_Lower.f a = some (lowB a) := by unfold mimetype_Lower.f; rw [if_pos h]
theorem text_l1_ev (x5 : ByteArray) (ws : List ByteArray) (hl : ws.length ≤ 9223372036854775807) (hs : ∀ w ∈ ws, w.size < 140737488355328) (d : Nat) : ∀ j : Nat, j ≤ ws.length → ws.length - j = d →
    Ev (fun k => mimetype_Text.l1 k x5 ws (ws.length : Int) (j : Int)) (l1R x5 ((ws.drop j).all goodB)) := by
  induction d with
  | zero =>
    intro j hj hd
    rw [List.drop_of_length_le (by omega)]
    refine Ev.step (f := fun _ => some (x5, true)) (fun k => ?_) (Ev.now _)
    rw [mimetype_Text.l1, if_neg (by omega)]
  | succ d ih =>
    intro j hj hd
    have hlt : j < ws.length := by omega
    have hw := hs ws[j] (List.getElem_mem hlt)
    have hi := ih (j + 1) (by omega) (by omega)
    rw [List.drop_eq_getElem_cons hlt, List.all_cons]
    have hW := Lib.hid (wrap_succ j ws.length hlt hl)
    refine Ev.step (f := fun k => (mimetype_Token.f k ws[j]).bind fun t310 => (if t310 = true then (if (lowB ws[j]).toList = ws[j].toList then (mimetype_Text.l1 k x5 ws (ws.length : Int) ((j + 1 : Nat) : Int)) else (some ((⟨#[]⟩ : ByteArray), false))) else (some ((⟨#[]⟩ : ByteArray), false)))) (fun k => ?_) ?_
    · rw [mimetype_Text.l1, if_pos (by omega), if_pos (by omega), if_pos (by omega), rdOf_at ws j hlt, hW.out, lower_some' _ hw, Option.bind_some]
    · refine Ev.bind (f := fun k t310 => _) (mimetype_Token.ev ws[j] (by omega)) ?_
      unfold goodB goodL
      rw [ByteArray.toList_eq, ByteArray.toList_eq, show (lowB ws[j]).data.toList = lowL ws[j].data.toList from rfl]
      by_cases h1 : tokL ws[j].data.toList = true
      · refine Ev.congr (fun k => if_pos h1) ?_
        by_cases h2 : lowL ws[j].data.toList = ws[j].data.toList
        · refine Ev.congr (fun k => if_pos h2) ?_
          rw [h1, beq_iff_eq.2 h2]
          exact hi
        · refine Ev.congr (fun k => if_neg h2) ?_
          rw [h1, beq_eq_false_iff_ne.2 h2]
          exact Ev.now _
      · refine Ev.congr (fun k => if_neg h1) ?_
        have h3 : tokL ws[j].data.toList = false := by simpa using h1
        rw [h3]
        exact Ev.now _
theorem written_some (a : ByteArray) (h : 2 * a.size + 2 ≤ 140737488355328) : mimetype_written.f a = some (writtenB a) := by unfold mimetype_written.f; rw [if_pos h]
theorem written_size (a : ByteArray) : (writtenB a).size ≤ 2 * a.size + 2 := by
  show (writtenL a.data.toList).toArray.size ≤ _
  have h := escL_le a.data.toList
  have e : a.data.toList.length = a.size := toList_size a
  unfold writtenL
  split
  · simp; omega
  · simp; omega
theorem parsL_snoc (l : List S42) (p : S42) : parsL (l ++ [p]) = parsL l ++ parL p := by simp [parsL]
theorem textB_snoc (m u : ByteArray) (l : List S42) (p : S42) : textB m u (l ++ [p]) = textB m u l ++ ((((⟨#[59, 32]⟩ : ByteArray) ++ p.f0) ++ (⟨#[61]⟩ : ByteArray)) ++ writtenB p.f1) := by
  apply ext_toList
  simp [textB, textL, parsL_snoc, parL, writtenB]
theorem textB_nil (m u : ByteArray) : textB m u [] = (m ++ (⟨#[47]⟩ : ByteArray)) ++ u := by
  apply ext_toList
  simp [textB, textL, parsL]
theorem text_l0_ev (m u : ByteArray) (l : List S42) (hl : l.length ≤ 536870912) (hm : m.size ≤ 536870912) (hu : u.size ≤ 536870912) (hp : ∀ p ∈ l, p.f0.size ≤ 536870912 ∧ p.f1.size ≤ 536870912) (d : Nat) : ∀ i : Nat, i ≤ l.length → l.length - i = d → (textB m u (l.take i)).size ≤ 1073741825 + i * 1610612750 →
    Ev (fun k => mimetype_Text.l0 k (m :: u :: (l.take i).map S42.f0) (textB m u (l.take i)) l (l.length : Int) (i : Int)) (txtR m u l) := by
  induction d with
  | zero =>
    intro i hi hd hz
    have e : l.take i = l := List.take_of_length_le (by omega)
    rw [e]
    have h1 := text_l1_ev (textB m u l) (m :: u :: l.map S42.f0) (by simp; omega) (by
      intro w hw
      simp only [List.mem_cons, List.mem_map] at hw
      rcases hw with rfl | rfl | ⟨p, h, rfl⟩
      · omega
      · omega
      · have := (hp p h).1; omega) _ 0 (by omega) rfl
    have e2 : l1R (textB m u l) (((m :: u :: l.map S42.f0).drop 0).all goodB) = txtR m u l := by
      unfold l1R txtR goodT
      simp [goodB, List.all_map, Function.comp_def, Bool.and_assoc]
    rw [e2] at h1
    refine Ev.step (fun k => ?_) h1
    rw [mimetype_Text.l0, if_neg (by omega)]; rfl
  | succ d ih =>
    intro i hi hd hz
    have hlt : i < l.length := by omega
    obtain ⟨h0, h1⟩ := hp l[i] (List.getElem_mem hlt)
    have et : l.take (i + 1) = l.take i ++ [l[i]] := List.take_succ_eq_append_getElem hlt
    have hws := written_size l[i].f1
    have hsn := textB_snoc m u (l.take i) l[i]
    have s1 : ((⟨#[59, 32]⟩ : ByteArray) ++ l[i].f0).size = 2 + l[i].f0.size := by rw [ByteArray.size_append]; rfl
    have s2 : (((⟨#[59, 32]⟩ : ByteArray) ++ l[i].f0) ++ (⟨#[61]⟩ : ByteArray)).size = 2 + l[i].f0.size + 1 := by rw [ByteArray.size_append, s1]; rfl
    have s3 : ((((⟨#[59, 32]⟩ : ByteArray) ++ l[i].f0) ++ (⟨#[61]⟩ : ByteArray)) ++ writtenB l[i].f1).size = 2 + l[i].f0.size + 1 + (writtenB l[i].f1).size := by rw [ByteArray.size_append, s2]
    have s4 : (textB m u (l.take (i + 1))).size ≤ 1073741825 + (i + 1) * 1610612750 := by
      rw [et, hsn, ByteArray.size_append, s3]; omega
    have hlen : (m :: u :: (l.take i).map S42.f0).length < 8796093022208 := by simp; omega
    have hat : rd_T42 l (i : Int) = l[i] := by simp [rd_T42, List.getD_eq_getElem?_getD, List.getElem?_eq_getElem hlt]
    have hW := Lib.hid (wrap_succ i l.length hlt (by omega))
    refine Ev.step (f := fun k => mimetype_Text.l0 k (m :: u :: (l.take (i + 1)).map S42.f0) (textB m u (l.take (i + 1))) l (l.length : Int) ((i + 1 : Nat) : Int)) (fun k => ?_) (ih (i + 1) (by omega) (by omega) s4)
    rw [mimetype_Text.l0, if_pos (by omega), if_pos (by omega), if_pos (by omega), if_pos hlen, hat, if_pos (by omega), if_pos (by omega), written_some _ (by omega), Option.bind_some, if_pos (by omega), if_pos (by omega), hW.out, et, hsn]
    simp only [List.map_append, List.map_cons, List.map_nil, List.cons_append]
theorem text_ev (m u : ByteArray) (l : List S42) (hl : l.length ≤ 536870912) (hm : m.size ≤ 536870912) (hu : u.size ≤ 536870912) (hp : ∀ p ∈ l, p.f0.size ≤ 536870912 ∧ p.f1.size ≤ 536870912) : Ev (fun k => mimetype_Text.f k m u l) (txtR m u l) := by
  have h := text_l0_ev m u l hl hm hu hp l.length 0 (by omega) (by omega) (by
    rw [List.take_zero, textB_nil, ByteArray.size_append, ByteArray.size_append, show (⟨#[47]⟩ : ByteArray).size = 1 from rfl]; omega)
  rw [List.take_zero, textB_nil] at h
  refine Ev.congr (fun k => ?_) h
  unfold mimetype_Text.f
  have e : (m ++ (⟨#[47]⟩ : ByteArray)).size = m.size + 1 := by rw [ByteArray.size_append]; rfl
  rw [if_pos (by omega), if_pos (by omega)]; rfl
end Go.Proofs.Ytodidfdfbanliaa.PAll
