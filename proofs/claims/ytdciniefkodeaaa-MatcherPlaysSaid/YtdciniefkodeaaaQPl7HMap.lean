/- The map of the edges: looked up, and written. -/
import Derived.Test.YtdciniefkodeaaaProg
import Derived.Test.YtdciniefkodeaaaQPl7HAutoP
import Derived.Test.YtdciniefkodeaaaQPl7WEqStruct
import Derived.Test.YtdciniefkodeaaaQPl7WWords
import Derived.Test.YtdciniefkodeaaaQPl7WLast
import Derived.Test.YtdciniefkodeaaaQPl7WMore
set_option linter.unusedVariables false
set_option linter.unusedSimpArgs false
namespace Go.Proofs.Ytdciniefkodeaaa.PAll
open Go.RowKit Go.Proofs.YtdciniefkodeaaaW.PrintWords Go.Proofs.YtdciniefkodeaaaW.PrintLast Go.Proofs.YtdciniefkodeaaaW.PrintMore
theorem eqA98 (d : Nat) (w : World) (x0 y0 : Int) (x1 y1 : Int) :
    (Op.equalIn (d + 2) 98 (.agg #[.int .i64 x0, .int .u8 x1]) (.agg #[.int .i64 y0, .int .u8 y1])).run Try.prog w = .ok (x0 == y0 && (x1 == y1)) w := by
  refine eqA_of Try.underlying98 (by kernel_rfl) ?_
  refine eqf_cons (by rfl) (by go_simp; rfl) (by go_simp; rfl) (by go_simp) ?_
  exact eqf_last (by rfl) (by go_simp; rfl) (by go_simp; rfl) (by go_simp)
def kEdge (s : Int) (b : Int) : Value := .agg #[.int .i64 s, .int .u8 b]
theorem check98 (e : Bool) (s b : Int) (w : World) : (Instr.checkKey e 10000 98 (kEdge s b)).run Try.prog w = .ok () w := by
  unfold kEdge
  rw [show (10000 : Nat) = 9998 + 1 + 1 from rfl]
  rw [Instr.checkKey]
  go_simp
  rw [Instr.checkKey, Instr.checkKey]
  go_simp
/-- These entries are these edges. -/
def IsE : List MapEntry → List Edge → Prop
  | [], [] => True
  | m :: ms, x :: E => m.key = kEdge x.1.1 x.1.2 ∧ m.val = .int .i64 x.2 ∧ IsE ms E
  | _, _ => False
theorem find_asking (s b : Int) (w : World) : ∀ (ms : List MapEntry) (E : List Edge) (i : Nat), IsE ms E →
    (Instr.findAsking 98 (kEdge s b) ms i).run Try.prog w = .ok ((findE s b E i).map fun x => (x.1, .int .i64 x.2)) w
  | [], [], i, _ => by unfold Instr.findAsking; rfl
  | [], _ :: _, _, h => h.elim
  | _ :: _, [], _, h => h.elim
  | m :: ms, x :: E, i, h => by
    obtain ⟨hk, hv, hr⟩ := h
    have ih := find_asking s b w ms E (i + 1) hr
    have he := eqA98 9998 w s x.1.1 b x.1.2
    unfold Instr.findAsking
    rw [hk, hv]
    have he2 : (Op.equal 98 (kEdge s b) (kEdge x.1.1 x.1.2)).run Try.prog w = .ok (s == x.1.1 && (b == x.1.2)) w := he
    unfold findE
    by_cases h1 : x.1 = (s, b)
    · have e1 : (s == x.1.1 && (b == x.1.2)) = true := by rw [h1]; simp
      rw [e1, h1] at he2
      go_simp
    · have e1 : (s == x.1.1 && (b == x.1.2)) = false := by
        rw [Bool.and_eq_false_iff]
        by_cases h2 : s = x.1.1
        · right; rw [beq_eq_false_iff_ne]; intro h3; exact h1 (by rw [h2, h3])
        · left; rw [beq_eq_false_iff_ne]; exact h2
      rw [e1] at he2
      go_simp
theorem find_key (s b : Int) (w : World) (ms : List MapEntry) (E : List Edge) (h : IsE ms E) :
    (Instr.findKey 98 (kEdge s b) ms).run Try.prog w = .ok ((findE s b E 0).map fun x => (x.1, .int .i64 x.2)) w := by
  have hf := find_asking s b w ms E 0 h
  have hu := run_underlying (P := Try.prog) (w := w) Try.underlying98
  unfold Instr.findKey
  cases ms with
  | nil =>
    cases E with
    | nil => simp only [Sem.run_bind, hu]; rfl
    | cons _ _ => exact h.elim
  | cons m ms =>
    cases E with
    | nil => exact h.elim
    | cons x E =>
      simp only [Sem.run_bind, hu]
      have e : ∀ F, Instr.findNow (.struct F) (kEdge s b) (m :: ms) 0 = none := fun F => rfl
      simp only [Result.andThen, e]
      exact hf
theorem gObj {w : World} {r : Nat} {es : Array MapEntry} {clock : Nat} (h : w.heap[r]? = some (.map es clock)) : (getObj r).run Try.prog w = .ok (.map es clock) w := by simp [getObj, Sem.run, h]
theorem sObj {w : World} {r : Nat} {es : Array MapEntry} {clock : Nat} (o : Obj) (h : w.heap[r]? = some (.map es clock)) : (setObj r o).run Try.prog w = .ok () { w with heap := w.heap.setIfInBounds r o } := by simp [setObj, Sem.run, h]
theorem zero3 (w : World) : (zeroValue 3).run Try.prog w = .ok (.int .i64 0) w := Try.zeroValue3 w
/-- 'to, ok := edges[edge{s, b}]'. -/
theorem lookup_edge (s b : Int) (w : World) (g clock : Nat) (es : Array MapEntry) (E : List Edge) (hg : w.heap[g]? = some (.map es clock)) (h : IsE es.toList E) :
    (Instr.lookup 81 (.map (some g)) (kEdge s b) true).run Try.prog w = .ok (.tuple #[.int .i64 ((valE s b E).getD 0), .bool (valE s b E).isSome]) w := by
  have hu := run_underlying (P := Try.prog) (w := w) Try.underlying81
  have hk := find_key s b w es.toList E h
  have hc := check98 es.isEmpty s b w
  have ho := gObj hg
  have hz := zero3 w
  rw [← findE_val s b E 0]
  unfold Instr.lookup
  simp only [Sem.run_bind, hu, Result.andThen, ho, Sem.run_pure, hc, hk]
  cases findE s b E 0 with
  | none => simp only [Option.map_none, Sem.run_bind, hz, Result.andThen, Sem.run_pure]; rfl
  | some x => simp only [Option.map_some, Sem.run_pure, Result.andThen]; rfl
/-- The world with this object in this block. -/
def objSet (w : World) (g : Nat) (o : Obj) : World := { w with heap := w.heap.setIfInBounds g o }
/-- 'edges[edge{s, b}] = to', a new key. -/
theorem update_edge (s b z : Int) (w : World) (g clock : Nat) (es : Array MapEntry) (E : List Edge) (hg : w.heap[g]? = some (.map es clock)) (h : IsE es.toList E) (hn : valE s b E = none) :
    (Instr.mapUpdate 81 (.map (some g)) (kEdge s b) (.int .i64 z)).run Try.prog w = .ok () (objSet w g (.map (es.push { key := kEdge s b, val := .int .i64 z, born := clock }) (clock + 1))) := by
  have hu := run_underlying (P := Try.prog) (w := w) Try.underlying81
  have hk := find_key s b w es.toList E h
  have hc := check98 false s b w
  have ho := gObj hg
  have hs := sObj (.map (es.push { key := kEdge s b, val := .int .i64 z, born := clock }) (clock + 1)) hg
  rw [← findE_val s b E 0] at hn
  have hf : findE s b E 0 = none := by cases hh : findE s b E 0 with
    | none => rfl
    | some x => rw [hh] at hn; cases hn
  rw [hf] at hk
  unfold Instr.mapUpdate
  simp only [Sem.run_bind, hu, Result.andThen, ho, Sem.run_pure, hc, hk, Option.map_none, hs]
  rfl
theorem isE_snoc (s b z : Int) (born : Nat) : ∀ (ms : List MapEntry) (E : List Edge), IsE ms E → IsE (ms ++ [{ key := kEdge s b, val := .int .i64 z, born := born }]) (E ++ [((s, b), z)])
  | [], [], _ => ⟨rfl, rfl, trivial⟩
  | [], _ :: _, h => h.elim
  | _ :: _, [], h => h.elim
  | m :: ms, x :: E, h => ⟨h.1, h.2.1, isE_snoc s b z born ms E h.2.2⟩
/-- Block g is the map of the edges of these words. -/
def EdgeMap (w : World) (g : Nat) (T : List Wd) : Prop := ∃ es clock E, w.heap[g]? = some (.map es clock) ∧ IsE es.toList E ∧ EdgesOf T E
theorem EdgeMap.of_heap {w w1 : World} {g : Nat} {T : List Wd} (h : EdgeMap w g T) (hm : w1.heap[g]? = w.heap[g]?) : EdgeMap w1 g T := by
  obtain ⟨es, clock, E, h1, h2, h3⟩ := h
  exact ⟨es, clock, E, hm.trans h1, h2, h3⟩
theorem EdgeMap.look {w : World} {g : Nat} {T : List Wd} (h : EdgeMap w g T) (s : Nat) (b : Int) (hs : s < T.length) :
    (Instr.lookup 81 (.map (some g)) (kEdge s b) true).run Try.prog w = .ok (.tuple #[.int .i64 (if T.getD s [] ++ [b] ∈ T then ((T.idxOf (T.getD s [] ++ [b]) : Nat) : Int) else 0), .bool (decide (T.getD s [] ++ [b] ∈ T))]) w := by
  obtain ⟨es, clock, E, h1, h2, h3⟩ := h
  rw [lookup_edge s b w g clock es E h1 h2, h3.find s b hs]
  by_cases hm : T.getD s [] ++ [b] ∈ T
  · rw [if_pos hm, if_pos hm, decide_eq_true hm]; rfl
  · rw [if_neg hm, if_neg hm, decide_eq_false hm]; rfl
theorem EdgeMap.put {w : World} {g : Nat} {T : List Wd} (h : EdgeMap w g T) (hn : T.Nodup) (hc : Closed T) (s : Nat) (b : Int) (hs : s < T.length) (hw : T.getD s [] ++ [b] ∉ T) :
    ∃ o, (∀ w' : World, w'.heap[g]? = w.heap[g]? → (Instr.mapUpdate 81 (.map (some g)) (kEdge s b) (.int .i64 (T.length : Nat))).run Try.prog w' = .ok () (objSet w' g o)) ∧ ∀ w' : World, w'.heap[g]? = some o → EdgeMap w' g (T ++ [T.getD s [] ++ [b]]) := by
  obtain ⟨es, clock, E, h1, h2, h3⟩ := h
  have hv : valE s b E = none := by rw [h3.find s b hs, if_neg hw]
  refine ⟨_, fun w' hw' => update_edge s b (T.length : Nat) w' g clock es E (hw'.trans h1) h2 hv, fun w' hw' => ⟨_, _, _, hw', ?_, edges_add h3 hn hc hs hw⟩⟩
  rw [Array.toList_push]
  exact isE_snoc s b (T.length : Nat) clock es.toList E h2
end Go.Proofs.Ytdciniefkodeaaa.PAll
