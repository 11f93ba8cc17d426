/- (*patterns.Auto).lay, walked: a pattern's states are laid. -/
import Derived.Lib.Hide
import Derived.BigRegion
import Derived.WalkKit
import Derived.Deep.LoopGhost
import Derived.Deep.DeepCutAuto
import Derived.Deep.RegionHeld3
import Derived.Deep.AppendLies
import Derived.StillTailTactics
import Derived.Test.YtdciniefkodeaaaQPl7HNodes
set_option linter.unusedVariables false
set_option linter.unusedSimpArgs false
namespace Go.Proofs.Ytdciniefkodeaaa.PAll
open Go.RowKit Go.Proofs.YtdciniefkodeaaaW.PrintWords Go.Proofs.YtdciniefkodeaaaW.PrintLast Go.Proofs.YtdciniefkodeaaaW.PrintMore
/-- These states are those of these words; the outs that each has so far. -/
def Matches (T : List Wd) (O : Wd → List Int) (nds : List Nd) : Prop :=
  nds.length = T.length ∧ ∀ (j : Nat) (x : Nd), nds[j]? = some x → x.par = parT T j ∧ x.b = byT T j ∧ x.dep = depT T j ∧ x.fail = 0 ∧ x.outs = O (T.getD j [])
theorem matches_snoc {T : List Wd} {O : Wd → List Int} {nds : List Nd} (h : Matches T O nds) (hT : TrieI T) {s : Nat} {b : Int} (hs : s < T.length) (hw : T.getD s [] ++ [b] ∉ T) (hO : O (T.getD s [] ++ [b]) = []) (v : Value) :
    Matches (T ++ [T.getD s [] ++ [b]]) O (nds ++ [⟨(s : Int), b, (depT T s : Int) + 1, 0, v, []⟩]) := by
  refine ⟨by simp [h.1], fun j x hx => ?_⟩
  rcases Nat.lt_or_ge j nds.length with hj | hj
  · rw [List.getElem?_append_left hj] at hx
    have hjT : j < T.length := by have := h.1; omega
    obtain ⟨h1, h2, h3, h4, h5⟩ := h.2 j x hx
    have e := getD_append_left (T.getD s [] ++ [b]) hjT
    refine ⟨?_, ?_, ?_, h4, by rw [e]; exact h5⟩
    · rw [h1]; unfold parT; rw [e, idx_append _ (drop_mem hT (get_mem hjT))]
    · rw [h2]; unfold byT; rw [e]
    · rw [h3]; unfold depT; rw [e]
  · have hjl : j = nds.length := by
      have := (List.getElem?_eq_some_iff.1 hx).1
      simp at this; omega
    rw [hjl, List.getElem?_append_right (Nat.le_refl _)] at hx
    have hx : (⟨(s : Int), b, (depT T s : Int) + 1, 0, v, []⟩ : Nd) = x := by simpa using hx
    subst hx
    have e : (T ++ [T.getD s [] ++ [b]]).getD j [] = T.getD s [] ++ [b] := by rw [hjl, h.1]; exact getD_append_last _ _
    refine ⟨?_, ?_, ?_, rfl, by rw [e, hO]⟩
    · unfold parT
      rw [e, List.dropLast_concat, idx_append _ (get_mem hs), get_idx hT.nodup hs]
    · unfold byT
      rw [e]; simp
    · unfold depT
      rw [e]; simp
/-- A machine under way: block pa, its states, the edges' map at block g. -/
def LayAt (w : World) (base pa g : Nat) (cnt lon : Int) (T : List Wd) (O : Wd → List Int) : Prop :=
  ∃ vn nds, base ≤ pa ∧ base ≤ g ∧ w.heap[pa]? = some (.cells #[vn, .slice none 0 0, .int .i64 cnt, .int .i64 lon] 80 (0, 0)) ∧ NodesI w base vn nds ∧ Matches T O nds ∧ EdgeMap w g T ∧ TrieI T ∧ ∀ x, x ∉ T → O x = []
section
variable {p : Wd} {T : List Wd}
theorem take_snoc_ {k : Nat} (hk : k < p.length) : p.take (k + 1) = p.take k ++ [p.getD k 0] := by
  rw [List.take_succ_eq_append_getElem hk, List.getD_eq_getElem?_getD, List.getElem?_eq_getElem hk, Option.getD_some]
theorem lay_step_in {k : Nat} (h : p.take (k + 1) ∈ layFrom p k T) : layFrom p (k + 1) T = layFrom p k T := by rw [layFrom, addW, if_pos h]
theorem lay_step_new {k : Nat} (h : p.take (k + 1) ∉ layFrom p k T) : layFrom p (k + 1) T = layFrom p k T ++ [p.take (k + 1)] := by rw [layFrom, addW, if_neg h]
theorem lay_len : ∀ k, (layFrom p k T).length ≤ T.length + k
  | 0 => Nat.le_refl _
  | k + 1 => by
    have := lay_len k
    rw [layFrom, addW]
    split
    · omega
    · simp; omega
end
theorem byte_at {w : World} {A : Option Addr} {n : Nat} {p : Wd} (h : (Kd.int .u8).C w A n p) {k : Nat} (hk : k < n) : ∃ ad, A = some ad ∧ w.cell? (ad.add k) = some (.int .u8 (p.getD k 0)) := by
  obtain ⟨ad, c, e, _, hK, hc⟩ := ReadsRow.get_ (show ReadsRow (fun x cs => cs = [Value.int .u8 x]) 1 w A n p from h) 0 (k : Int) (by omega) (by omega)
  rw [Int.toNat_natCast] at hK hc
  refine ⟨ad, e, ?_⟩
  rw [hK] at hc
  have := hc 0 _ rfl
  rwa [Nat.mul_one, Nat.add_zero] at this
theorem info76 : (Try.prog.info? 76).map (fun i => (i.zero, i.size, i.bytes)) = some (some (.agg #[.int .i64 0, .int .u8 0, .int .i64 0, .int .i64 0, .slice none 0 0]), 5, 56) := by kernel_rfl
theorem info3 : (Try.prog.info? 3).map (fun i => (i.zero, i.size, i.bytes)) = some (some (.int .i64 0), 1, 8) := by kernel_rfl
theorem cell_alloc_drew_ {w : World} {p : Addr} {v : Value} {o : Obj} (h : w.drew.cell? p = some v) : ((w.alloc o).drew).cell? p = some v := by
  have hl : p.block < w.heap.size := World.block_lt_of_cell? w.drew p h
  show (w.alloc o).cell? p = some v
  rw [World.cell?_of_block (Below.heap_alloc w o p.block hl)]
  exact h
theorem _root_.Go.World.ownsRow.drew_alloc_ {w : World} {base : Nat} {e : TypeId} {size n : Nat} {v : Value} {xs : List Value} (h : w.ownsRow base e size v n xs) (o : Obj) : (w.drew.alloc o).ownsRow base e size v n xs := World.ownsRow.alloc (w := w.drew) h o
/-- A block that is not the one appended to. -/
theorem blk_kept {wq w1 : World} {pa : Nat} {row : Option Nat} {o box : Obj} (h : wq.heap[pa]? = some o) (hne : some pa ≠ row) (hg : (wq.drew.alloc box).grownBy w1 row) : w1.heap[pa]? = some o := by
  have hl := (Array.getElem?_eq_some_iff.1 h).1
  rw [hg.block pa (by simp; omega) hne, Below.heap_alloc wq.drew box pa hl]
  exact h
theorem ne_of_types {w : World} {a b ta tb : Nat} {ca cb : Array Value} (h1 : w.heap[a]? = some (.cells ca ta (0, 0))) (h2 : w.heap[b]? = some (.cells cb tb (0, 0))) (hne : ta ≠ tb) : a ≠ b := by
  rintro rfl
  rw [h1] at h2
  injection h2 with h2
  injection h2 with _ e
  exact hne e
theorem objSet_same {w : World} {g : Nat} (o : Obj) (h : g < w.heap.size) : (objSet w g o).heap[g]? = some o := by
  show (w.heap.setIfInBounds g o)[g]? = _
  rw [Array.getElem?_setIfInBounds_self_of_lt h]
theorem objSet_other {w : World} {g k : Nat} (o : Obj) (h : k ≠ g) : (objSet w g o).heap[k]? = w.heap[k]? := Array.getElem?_setIfInBounds_ne (Ne.symm h)
theorem objSet_below {w : World} {B g : Nat} (o : Obj) (h : B ≤ g) : Below B w (objSet w g o) := ⟨rfl, rfl, rfl, by simp [objSet], fun k hk => objSet_other o (by omega)⟩
theorem EdgeMap.isMap {w : World} {g : Nat} {T : List Wd} (h : EdgeMap w g T) : ∃ o, w.heap[g]? = some o ∧ ∀ cells ty fr, o ≠ .cells cells ty fr := by
  obtain ⟨es, clock, E, h1, _⟩ := h
  exact ⟨_, h1, fun _ _ _ e => by cases e⟩
theorem map_ne {w : World} {g k : Nat} {T : List Wd} (h : EdgeMap w g T) {cells : Array Value} {ty : Nat} {fr : Nat × Nat} (hk : w.heap[k]? = some (.cells cells ty fr)) : k ≠ g := by
  rintro rfl
  obtain ⟨o, h1, h2⟩ := h.isMap
  rw [h1] at hk
  injection hk with hk
  exact h2 _ _ _ hk
/-- A state has been laid behind the others, the row stored. -/
theorem lay_new {w0 wq w1 : World} {pa g gn n cn : Nat} {cnt lon : Int} {nds : List Nd} {Tn : List Wd} {x : Nd} {v2 : Value} {box : Obj} (hn : nds.length = n) (HPA : wq.heap[pa]? = some (.cells #[.slice (some ⟨gn, 0, none⟩) n cn, .slice none 0 0, .int .i64 cnt, .int .i64 lon] 80 (0, 0)))
    (HN : NodesI wq w0.heap.size (.slice (some ⟨gn, 0, none⟩) n cn) nds) (HM : EdgeMap wq g Tn) (HB : Below w0.heap.size w0 wq) (hpa : w0.heap.size ≤ pa) (hgn : gn ≠ g) (hpgn : pa ≠ gn)
    (hgrow : (wq.drew.alloc box).grownBy w1 (some gn)) (hown1 : w1.ownsRow w0.heap.size 76 5 v2 (n + 1) (flat nds ++ x.cells)) (h1 : x.out = .slice none 0 0) (h2 : x.outs = []) :
    (w1.setCell ⟨pa, 0, none⟩ v2).heap[pa]? = some (.cells #[v2, .slice none 0 0, .int .i64 cnt, .int .i64 lon] 80 (0, 0)) ∧ NodesI (w1.setCell ⟨pa, 0, none⟩ v2) w0.heap.size v2 (nds ++ [x]) ∧ EdgeMap (w1.setCell ⟨pa, 0, none⟩ v2) g Tn ∧ Below w0.heap.size w0 (w1.setCell ⟨pa, 0, none⟩ v2) := by
  subst hn
  have hb1 : Below wq.heap.size wq (wq.drew.alloc box) := (Below.refl _ wq).drew.alloc (Nat.le_refl _) box
  have hpa1 := blk_kept HPA (fun e => hpgn (by injection e)) hgrow
  have hpg : pa ≠ g := map_ne HM HPA
  have hN1 : NodesI w1 w0.heap.size v2 (nds ++ [x]) := (HN.keep (KeepN.below hb1)).snoc hgrow hown1 h1 h2
  refine ⟨?_, hN1.keep (KeepN.setCell hpa1 (by decide) (by decide) 0 v2), ?_, ?_⟩
  · have := heap_setCell_same w1 pa 0 _ _ v2 hpa1
    simpa using this
  · obtain ⟨o, ho, _⟩ := HM.isMap
    refine HM.of_heap ?_
    rw [Below.heap_setCell w1 ⟨pa, 0, none⟩ v2 g (Ne.symm hpg), blk_kept ho (fun e => hgn (by injection e with e; exact e.symm)) hgrow, ho]
  · exact (((HB.trans (hb1.mono HB.size)).grown hgrow (by simp; have := HB.size; omega) (fun k e => by injection e with e; subst e; exact (HN.row.lt gn rfl).1)).setCell (p := ⟨pa, 0, none⟩) hpa v2)
/-- A pattern's number has been put to a state's outs. -/
theorem lay_out {w0 wq w1 : World} {pa g gn cn i : Nat} {cnt lon : Int} {nds : List Nd} {T : List Wd} {x : Nd} {v2 : Value} {os : List Int} {box : Obj} (hx : nds[i]? = some x) (HPA : wq.heap[pa]? = some (.cells #[.slice (some ⟨gn, 0, none⟩) nds.length cn, .slice none 0 0, .int .i64 cnt, .int .i64 lon] 80 (0, 0)))
    (HN : NodesI wq w0.heap.size (.slice (some ⟨gn, 0, none⟩) nds.length cn) nds) (HM : EdgeMap wq g T) (HB : Below w0.heap.size w0 wq) (hpa : w0.heap.size ≤ pa) (hpgn : pa ≠ gn) (hxp : x.out.ownBlock ≠ some pa) (hxm : x.out.ownBlock ≠ some g)
    (hgrow : (wq.drew.alloc box).grownBy w1 x.out.ownBlock) (hown1 : w1.ownsRow w0.heap.size 3 1 v2 os.length (nums .i64 os)) (hat : v2.ownBlock = x.out.ownBlock ∨ ∀ k, v2.ownBlock = some k → wq.heap.size ≤ k) :
    (w1.setCell ⟨gn, i * 5 + 4, none⟩ v2).heap[pa]? = some (.cells #[.slice (some ⟨gn, 0, none⟩) nds.length cn, .slice none 0 0, .int .i64 cnt, .int .i64 lon] 80 (0, 0)) ∧ NodesI (w1.setCell ⟨gn, i * 5 + 4, none⟩ v2) w0.heap.size (.slice (some ⟨gn, 0, none⟩) nds.length cn) (nds.set i { x with out := v2, outs := os }) ∧ EdgeMap (w1.setCell ⟨gn, i * 5 + 4, none⟩ v2) g T ∧ Below w0.heap.size w0 (w1.setCell ⟨gn, i * 5 + 4, none⟩ v2) := by
  have hg2 : wq.grownBy w1 x.out.ownBlock := by
    have := World.grownBy.trans (World.grownBy_alloc wq.drew box x.out.ownBlock) hgrow
    exact ⟨this.os, this.tape, this.output, this.size, this.block⟩
  have hgb := (HN.row.lt gn rfl).1
  have hgg : gn ≠ g := fun e => by
    obtain ⟨cells, hc⟩ := own_typed HN.row gn rfl
    exact map_ne HM hc e
  refine ⟨?_, HN.setOut hx hg2 hown1 hat, ?_, ?_⟩
  · rw [Below.heap_setCell w1 ⟨gn, i * 5 + 4, none⟩ v2 pa hpgn]
    exact blk_kept HPA (Ne.symm hxp) hgrow
  · obtain ⟨o, ho, _⟩ := HM.isMap
    refine HM.of_heap ?_
    rw [Below.heap_setCell w1 ⟨gn, i * 5 + 4, none⟩ v2 g (Ne.symm hgg), blk_kept ho (Ne.symm hxm) hgrow, ho]
  · exact (HB.grown hg2 HB.size (fun k e => ((HN.outs i x hx).lt k e).1)).setCell (p := ⟨gn, i * 5 + 4, none⟩) hgb v2
/-- On the way through a pattern. -/
def LayI (w0 w : World) (pa g : Nat) (cnt lon : Int) (p : Wd) (k s : Nat) (T : List Wd) (O : Wd → List Int) : Prop :=
  LayAt w w0.heap.size pa g cnt lon T O ∧ Below w0.heap.size w0 w ∧ p.take k ∈ T ∧ s = T.idxOf (p.take k)
def LayEnd (w0 : World) (pa g : Nat) (cnt lon id : Int) (p : Wd) (T : List Wd) (O : Wd → List Int) (e : Ending) (w' : World) : Prop :=
  e = .returned (.tuple #[]) ∧ LayAt w' w0.heap.size pa g cnt lon (layW T p) (fun x => O x ++ if p = x then [id] else []) ∧ Below w0.heap.size w0 w'
set_option maxHeartbeats 8000000 in
set_option maxRecDepth 1000000 in
theorem lay_calls (w0 w : World) (pa g : Nat) (cnt lon id : Int) (A : Option Addr) (c : Nat) (p : Wd) (T : List Wd) (O : Wd → List Int) (hr : (Kd.int .u8).C w0 A p.length p) (hc : p.length ≤ c) (hp : p.length ≤ 32) (hby : ∀ x ∈ p, 0 ≤ x ∧ x ≤ 255) (hT : T.length ≤ 4000) (hOl : ∀ y, (O y).length ≤ 4000)
    (h : LayAt w w0.heap.size pa g cnt lon T O) (hB : Below w0.heap.size w0 w) :
    Calls Try.prog 49 #[.pointer (some ⟨pa, 0, none⟩), .map (some g), .int .i64 id, .slice A p.length c] w (LayEnd w0 pa g cnt lon id p T O) := by
  have HR := Lib.hid hr
  have HY := Lib.hid hby
  have HOL := Lib.hid hOl
  have HI0 : Hid (LayI w0 w pa g cnt lon p 0 0 (layFrom p 0 T) O) := by
    obtain ⟨vn, nds, h1, h2, h3, h4, h5, h6, h7, h8⟩ := h
    exact ⟨⟨vn, nds, h1, h2, h3, h4, h5, h6, h7, h8⟩, hB, h7.closed.1, h7.idx_nil.symm⟩
  clear hr hby h hB hc hOl
  go_enter Try.func49, Try.ntmps49
  go_wp2
  go_loopg [8, 15] p.length (fun g1 vs vk wr => ∃ (k s : Nat), vk = .int .i64 k ∧ vs = .int .i64 s ∧ k ≤ p.length ∧ p.length - k ≤ g1 ∧ Hid (LayI w0 wr pa g cnt lon p k s (layFrom p k T) O))
  case atStart => exact ⟨0, 0, rfl, rfl, Nat.zero_le _, Nat.le_refl _, HI0⟩
  case round =>
    obtain ⟨k, s, rfl, rfl, hk, hg1, HI⟩ := hrel
    by_cases hlt : k < p.length
    · have hkz : (k : Int) < (p.length : Int) := by omega
      obtain ⟨ad, rfl, hcell0⟩ := byte_at HR.out hlt
      obtain ⟨bk, hbk⟩ : ∃ b, p.getD k 0 = b := ⟨_, rfl⟩
      rw [hbk] at hcell0
      obtain ⟨hL, hB, hm, hs⟩ := HI.out
      have hcell : wr.cell? (ad.add k) = some (.int .u8 bk) := (hB.cell (World.block_lt_of_cell? _ _ hcell0)).trans hcell0
      obtain ⟨vn, nds, h1, h2, h3, h4, h5, h6, h7, h8⟩ := hL
      obtain ⟨T', hT'⟩ : ∃ T', layFrom p k T = T' := ⟨_, rfl⟩
      rw [hT'] at hm hs h5 h6 h7 h8
      have hsl : s < T'.length := by rw [hs]; exact idx_lt hm
      have hsw : T'.getD s [] = p.take k := by rw [hs]; exact idx_get hm
      have hw : T'.getD s [] ++ [bk] = p.take (k + 1) := by rw [hsw, take_snoc_ hlt, hbk]
      have hlook := h6.look s bk hsl
      rw [hw] at hlook
      have hb255 : 0 ≤ bk ∧ bk ≤ 255 := HY.out bk (by rw [← hbk, List.getD_eq_getElem?_getD, List.getElem?_eq_getElem hlt, Option.getD_some]; exact List.getElem_mem hlt)
      unfold kEdge at hlook
      by_cases hin : p.take (k + 1) ∈ T'
      · rw [if_pos hin, decide_eq_true hin] at hlook
        have hnext : Hid (LayI w0 wr pa g cnt lon p (k + 1) (T'.idxOf (p.take (k + 1))) (layFrom p (k + 1) T) O) := by
          rw [← hT'] at hin ⊢
          rw [lay_step_in hin]
          exact ⟨HI.out.1, hB, hin, rfl⟩
        clear hcell0 hB hm hs h1 h2 h3 h4 h5 h6 h7 h8 hsl hsw hw hT' hbk hin HI
        go_wp2
        go_roundg (p.length - (k + 1))
        case measure => omega
        case rel => exact ⟨k + 1, _, by go_num, rfl, by omega, Nat.le_refl _, hnext⟩
      · rw [if_neg hin, decide_eq_false hin] at hlook
        have hn0 : 0 < nds.length := by rw [h5.1]; omega
        obtain ⟨gn, cn, rfl, hnc, hgb, cur, hgn⟩ := h4.form hn0
        obtain ⟨x, hx⟩ : ∃ x, nds[s]? = some x := ⟨_, List.getElem?_eq_getElem (by rw [h5.1]; exact hsl)⟩
        have hdep := (h5.2 s x hx).2.2.1
        have hcd0 := h4.cell hx (j := 2) (by decide)
        obtain ⟨o, hput, hmap⟩ := h6.put h7.nodup h7.closed s bk hsl (by rw [hw]; exact hin)
        have hupd := hput wr rfl
        unfold kEdge at hupd
        rw [← h5.1] at hupd
        have hca0 : wr.cell? ⟨pa, 0, none⟩ = some (.slice (some ⟨gn, 0, none⟩) nds.length cn) := by simp [World.cell?, h3]
        have hdb : 0 ≤ x.dep ∧ x.dep ≤ 4096 := by
          rw [hdep]; unfold depT; rw [hsw, List.length_take]; omega
        have HS := Lib.hid hs
        have HT := Lib.hid hT'
        have HW := Lib.hid hw
        have HSW := Lib.hid hsw
        have HD := Lib.hid hdep
        have HX := Lib.hid hx
        have H3 := Lib.hid h3
        have H5 := Lib.hid h5
        have HG := Lib.hid hgn
        have HCD := Lib.hid hcd0
        have HM := Lib.hid hmap
        have H6 := Lib.hid h6
        have H8 := Lib.hid h8
        have HPP := Lib.hid hput
        have hpg : pa ≠ g := map_ne h6 h3
        have hgng : gn ≠ g := map_ne h6 hgn
        have hpgn : pa ≠ gn := ne_of_types h3 hgn (by decide)
        have hgl : g < wr.heap.size := by obtain ⟨o', h', _⟩ := h6.isMap; exact (Array.getElem?_eq_some_iff.1 h').1
        have HPA : Hid ((objSet wr g o).heap[pa]? = some (.cells #[.slice (some ⟨gn, 0, none⟩) nds.length cn, .slice none 0 0, .int .i64 cnt, .int .i64 lon] 80 (0, 0))) := (objSet_other o hpg).trans h3
        have HN : Hid (NodesI (objSet wr g o) w0.heap.size (.slice (some ⟨gn, 0, none⟩) nds.length cn) nds) := h4.keep (by
          obtain ⟨o', h', hne⟩ := h6.isMap
          exact KeepN.objSet h' (fun cells ty => hne cells ty (0, 0)) o)
        have HM : Hid (EdgeMap (objSet wr g o) g (T' ++ [T'.getD s [] ++ [bk]])) := hmap _ (objSet_same o hgl)
        have HB' : Hid (Below w0.heap.size w0 (objSet wr g o)) := hB.trans (objSet_below o h2)
        have HO : Hid ((objSet wr g o).ownsRow w0.heap.size 76 5 (.slice (some ⟨gn, 0, none⟩) nds.length cn) nds.length (flat nds)) := HN.out.row
        have ca : (objSet wr g o).drew.cell? ⟨pa, 0, none⟩ = some (.slice (some ⟨gn, 0, none⟩) nds.length cn) := by
          show (objSet wr g o).cell? _ = _
          simp [World.cell?, HPA.out]
        have cd : (objSet wr g o).drew.cell? ⟨gn, s * 5 + 2, none⟩ = some (.int .i64 x.dep) := HN.out.cell hx (by decide)
        clear hput hs hT' hw hsw hdep hx h3 h5 hgn hcd0 hmap h6 h8 hbk hcell0
        obtain ⟨i0, hi, hz0, hz1, hz2⟩ := info_parts info76
        have hnl : nds.length ≤ 4100 := by rw [H5.out.1, ← HT.out]; have := lay_len (p := p) (T := T) k; omega
        have hmx1 : nds.length + 1 ≤ maxLen := by unfold maxLen; omega
        have hmx2 : (nds.length + 1) * 56 ≤ 140737488355328 := by omega
        have hdw : IntKind.i64.wrap (x.dep + 1) = x.dep + 1 := by rw [IntKind.wrap_i64]; omega
        have hsn : (s : Int) < (nds.length : Int) := by rw [H5.out.1]; omega
        go_wp2_with fail
        generalize hwq : objSet wr g o = wq at HPA HN HM HB' HO ca cd ⊢
        clear hwq
        have hbw1 : w0.heap.size ≤ (wq.drew.alloc (.cells (Nd.cells ⟨(s : Int), bk, x.dep + 1, 0, .slice none 0 0, []⟩).toArray 76)).heap.size := by have := HB'.out.size; simp; omega
        refine start_ (n := 22) (S := (fun w' => w'.cell? ⟨pa, 0, none⟩ = some (.slice (some ⟨gn, 0, none⟩) nds.length cn) ∧ w'.cell? ⟨gn, s * 5 + 2, none⟩ = some (.int .i64 x.dep))) (ds := [18, 21]) #[false, false, false, false, false, false, false, false, false, false, false, false, false, false, false, false, false, false, false, false, false, false] (by kernel_rfl) rfl rfl ?_ (fun hHeld => ?_)
        · exact ⟨ca, cd⟩
        refine pure_ (i := 0) (N := some 39) (v := ?_) (a' := ?_) #[true, false, false, false, false, false, false, false, false, false, false, false, false, false, false, false, false, false, false, false, false, false] rfl rfl (by kernel_rfl) (fun _ _ _ h => h) (Or.inl ⟨by rfl, ?_⟩) ?_ ?_
        rotate_left
        · intro w'
          go_simp
          with_reducible rfl
        rotate_left
        · simp only [Act.put, List.setIfInBounds_toArray, List.set_cons_zero, List.set_cons_succ, i64_w, i32_w]
          rfl
        refine pure_ (i := 1) (N := some 40) (v := ?_) (a' := ?_) #[true, true, false, false, false, false, false, false, false, false, false, false, false, false, false, false, false, false, false, false, false, false] rfl rfl (by kernel_rfl) (fun _ _ _ h => h) (Or.inl ⟨by rfl, ?_⟩) ?_ ?_
        rotate_left
        · intro w'
          go_simp
          with_reducible rfl
        rotate_left
        · simp only [Act.put, List.setIfInBounds_toArray, List.set_cons_zero, List.set_cons_succ, i64_w, i32_w]
          rfl
        refine pure_ (i := 2) (N := some 41) (v := ?_) (a' := ?_) #[true, true, true, false, false, false, false, false, false, false, false, false, false, false, false, false, false, false, false, false, false, false] rfl rfl (by kernel_rfl) (fun _ _ _ h => h) (Or.inl ⟨by rfl, ?_⟩) ?_ ?_
        rotate_left
        · intro w'
          go_simp
          with_reducible rfl
        rotate_left
        · simp only [Act.put, List.setIfInBounds_toArray, List.set_cons_zero, List.set_cons_succ, i64_w, i32_w]
          rfl
        refine pure_ (i := 3) (N := some 42) (v := ?_) (a' := ?_) #[true, true, true, true, false, false, false, false, false, false, false, false, false, false, false, false, false, false, false, false, false, false] rfl rfl (by kernel_rfl) (fun _ _ _ h => h) (Or.inl ⟨by rfl, ?_⟩) ?_ ?_
        rotate_left
        · intro w'
          go_simp
          with_reducible rfl
        rotate_left
        · simp only [Act.put, List.setIfInBounds_toArray, List.set_cons_zero, List.set_cons_succ, i64_w, i32_w]
          rfl
        refine take_ (i := 4) (N := some 43) (v := ?_) (a' := ?_) #[true, true, true, true, true, false, false, false, false, false, false, false, false, false, false, false, false, false, false, false, false, false] rfl rfl (by kernel_rfl) (fun _ _ _ h => h) (Or.inl ⟨by rfl, ?_⟩) hHeld ?_ ?_
        rotate_left
        · rintro w' ⟨s0, s1⟩
          go_simp
          with_reducible rfl
        rotate_left
        · simp only [Act.put, List.setIfInBounds_toArray, List.set_cons_zero, List.set_cons_succ, i64_w, i32_w]
          rfl
        refine pure_ (i := 5) (N := some 44) (v := ?_) (a' := ?_) #[true, true, true, true, true, true, false, false, false, false, false, false, false, false, false, false, false, false, false, false, false, false] rfl rfl (by kernel_rfl) (fun _ _ _ h => h) (Or.inl ⟨by rfl, ?_⟩) ?_ ?_
        rotate_left
        · intro w'
          go_simp
          with_reducible rfl
        rotate_left
        · simp only [Act.put, List.setIfInBounds_toArray, List.set_cons_zero, List.set_cons_succ, i64_w, i32_w]
          rfl
        refine pure_ (i := 6) (N := some 45) (v := ?_) (a' := ?_) #[true, true, true, true, true, true, true, false, false, false, false, false, false, false, false, false, false, false, false, false, false, false] rfl rfl (by kernel_rfl) (fun _ _ _ h => h) (Or.inl ⟨by rfl, ?_⟩) ?_ ?_
        rotate_left
        · intro w'
          go_simp
          with_reducible rfl
        rotate_left
        · simp only [Act.put, List.setIfInBounds_toArray, List.set_cons_zero, List.set_cons_succ, i64_w, i32_w]
          rfl
        refine pure_ (i := 7) (N := some 46) (v := ?_) (a' := ?_) #[true, true, true, true, true, true, true, true, false, false, false, false, false, false, false, false, false, false, false, false, false, false] rfl rfl (by kernel_rfl) (fun _ _ _ h => h) (Or.inl ⟨by rfl, ?_⟩) ?_ ?_
        rotate_left
        · intro w'
          go_simp
          with_reducible rfl
        rotate_left
        · simp only [Act.put, List.setIfInBounds_toArray, List.set_cons_zero, List.set_cons_succ, i64_w, i32_w]
          rfl
        refine pure_ (i := 8) (N := some 47) (v := ?_) (a' := ?_) #[true, true, true, true, true, true, true, true, true, false, false, false, false, false, false, false, false, false, false, false, false, false] rfl rfl (by kernel_rfl) (fun _ _ _ h => h) (Or.inl ⟨by rfl, ?_⟩) ?_ ?_
        rotate_left
        · intro w'
          go_simp
          with_reducible rfl
        rotate_left
        · simp only [Act.put, List.setIfInBounds_toArray, List.set_cons_zero, List.set_cons_succ, i64_w, i32_w]
          rfl
        refine pure_ (i := 9) (N := some 48) (v := ?_) (a' := ?_) #[true, true, true, true, true, true, true, true, true, true, false, false, false, false, false, false, false, false, false, false, false, false] rfl rfl (by kernel_rfl) (fun _ _ _ h => h) (Or.inl ⟨by rfl, ?_⟩) ?_ ?_
        rotate_left
        · intro w'
          go_simp
          with_reducible rfl
        rotate_left
        · simp only [Act.put, List.setIfInBounds_toArray, List.set_cons_zero, List.set_cons_succ, i64_w, i32_w]
          rfl
        refine take_ (i := 10) (N := some 49) (v := ?_) (a' := ?_) #[true, true, true, true, true, true, true, true, true, true, true, false, false, false, false, false, false, false, false, false, false, false] rfl rfl (by kernel_rfl) (fun _ _ _ h => h) (Or.inl ⟨by rfl, ?_⟩) hHeld ?_ ?_
        rotate_left
        · rintro w' ⟨s0, s1⟩
          go_simp
          with_reducible rfl
        rotate_left
        · simp only [Act.put, List.setIfInBounds_toArray, List.set_cons_zero, List.set_cons_succ, i64_w, i32_w]
          rfl
        refine pure_ (i := 11) (N := some 50) (v := ?_) (a' := ?_) #[true, true, true, true, true, true, true, true, true, true, true, true, false, false, false, false, false, false, false, false, false, false] rfl rfl (by kernel_rfl) (fun _ _ _ h => h) (Or.inl ⟨by rfl, ?_⟩) ?_ ?_
        rotate_left
        · intro w'
          go_simp
          with_reducible rfl
        rotate_left
        · simp only [Act.put, List.setIfInBounds_toArray, List.set_cons_zero, List.set_cons_succ, i64_w, i32_w]
          rfl
        refine pure_ (i := 12) (N := some 51) (v := ?_) (a' := ?_) #[true, true, true, true, true, true, true, true, true, true, true, true, true, false, false, false, false, false, false, false, false, false] rfl rfl (by kernel_rfl) (fun _ _ _ h => h) (Or.inl ⟨by rfl, ?_⟩) ?_ ?_
        rotate_left
        · intro w'
          go_simp
          with_reducible rfl
        rotate_left
        · simp only [Act.put, List.setIfInBounds_toArray, List.set_cons_zero, List.set_cons_succ, i64_w, i32_w]
          rfl
        refine pure_ (i := 13) (N := some 52) (v := ?_) (a' := ?_) #[true, true, true, true, true, true, true, true, true, true, true, true, true, true, false, false, false, false, false, false, false, false] rfl rfl (by kernel_rfl) (fun _ _ _ h => h) (Or.inl ⟨by rfl, ?_⟩) ?_ ?_
        rotate_left
        · intro w'
          go_simp
          with_reducible rfl
        rotate_left
        · simp only [Act.put, List.setIfInBounds_toArray, List.set_cons_zero, List.set_cons_succ, i64_w, i32_w]
          rfl
        refine take_ (i := 14) (N := some 53) (v := ?_) (a' := ?_) #[true, true, true, true, true, true, true, true, true, true, true, true, true, true, true, false, false, false, false, false, false, false] rfl rfl (by kernel_rfl) (fun _ _ _ h => h) (Or.inl ⟨by rfl, ?_⟩) hHeld ?_ ?_
        rotate_left
        · rintro w' ⟨s0, s1⟩
          go_simp
          with_reducible rfl
        rotate_left
        · simp only [Act.put, List.setIfInBounds_toArray, List.set_cons_zero, List.set_cons_succ, i64_w, i32_w]
          rfl
        refine pure_ (i := 15) (N := some 54) (v := ?_) (a' := ?_) #[true, true, true, true, true, true, true, true, true, true, true, true, true, true, true, true, false, false, false, false, false, false] rfl rfl (by kernel_rfl) (fun _ _ _ h => h) (Or.inl ⟨by rfl, ?_⟩) ?_ ?_
        rotate_left
        · intro w'
          go_simp
          with_reducible rfl
        rotate_left
        · simp only [Act.put, List.setIfInBounds_toArray, List.set_cons_zero, List.set_cons_succ, i64_w, i32_w]
          rfl
        refine pure_ (i := 16) (N := some 55) (v := ?_) (a' := ?_) #[true, true, true, true, true, true, true, true, true, true, true, true, true, true, true, true, true, false, false, false, false, false] rfl rfl (by kernel_rfl) (fun _ _ _ h => h) (Or.inl ⟨by rfl, ?_⟩) ?_ ?_
        rotate_left
        · intro w'
          go_simp
          with_reducible rfl
        rotate_left
        · simp only [Act.put, List.setIfInBounds_toArray, List.set_cons_zero, List.set_cons_succ, i64_w, i32_w]
          rfl
        refine one_ (i := 17) (N := some 56) #[true, true, true, true, true, true, true, true, true, true, true, true, true, true, true, true, true, true, false, false, false, false] rfl rfl (by kernel_rfl) (by decide) (fun K hK => ?_)
        refine value_ (v := ?_) (w1 := ?_) (by rfl) rfl ?_ ?_
        rotate_left 2
        · go_simp
          refine ⟨?_, ?_⟩ <;> rfl
        refine hK.out _ _ ⟨cell_alloc_drew_ hHeld.1, cell_alloc_drew_ hHeld.2⟩ (fun hHeld => ?_)
        clear hK K
        refine norm_ (a' := ?_) ?_ ?_
        rotate_left
        · show Act.put _ (some 56) _ = _
          simp only [Act.put, List.setIfInBounds_toArray, List.set_cons_zero, List.set_cons_succ, i64_w, i32_w]
          rfl
        refine last_ (i := 18) (N := some 57) #[true, true, true, true, true, true, true, true, true, true, true, true, true, true, true, true, true, true, true, false, false, false] rfl rfl (by kernel_rfl) (by decide) (fun K hK => ?_)
        refine step_append_lies _ (by rfl) _ _ _ (by rfl) w0.heap.size 76 i0 _ 5 56 Try.underlying77 hi hz0 hz1 hz2 rfl (by decide) _ nds.length (flat nds) (by rfl) (HO.out.drew_alloc_ _) ⟨wq.heap.size, 0, none⟩ 1 1 (Nd.cells ⟨(s : Int), bk, x.dep + 1, 0, .slice none 0 0, []⟩) (by rfl) (by rfl) (World.news_of_block (cs := (Nd.cells ⟨(s : Int), bk, x.dep + 1, 0, .slice none 0 0, []⟩).toArray) (t := 76) (fr := (0, 0)) (heap_alloc_new wq.drew _)) (by simp [Value.oneCell', Nd.cells]) (by decide) hmx1 hmx2 hbw1 (wq.heap.size + 1) (by simp) ?_
        intro g2 cap w1 hown1 hgrow hat hlt
        have hblk := blk_kept HPA.out (fun e => hpgn (by injection e)) hgrow
        have hfz : w1.frozen? ⟨pa, 0, none⟩ = false := by simp [World.frozen?, hblk]
        have hcp : w1.cell? ⟨pa, 0, none⟩ = some (.slice (some ⟨gn, 0, none⟩) nds.length cn) := by simp [World.cell?, hblk]
        refine hK.out _ _ ?_
        clear hK K
        refine norm_ (a' := ?_) ?_ ?_
        rotate_left
        · show Act.put _ (some 57) _ = _
          simp only [Act.put, List.setIfInBounds_toArray, List.set_cons_zero, List.set_cons_succ, i64_w, i32_w]
          rfl
        refine pure_ (i := 19) (N := some 58) (v := ?_) (a' := ?_) #[true, true, true, true, true, true, true, true, true, true, true, true, true, true, true, true, true, true, true, true, false, false] rfl rfl (by kernel_rfl) (fun _ _ _ h => h) (Or.inl ⟨by rfl, ?_⟩) ?_ ?_
        rotate_left
        · intro w'
          go_simp
          with_reducible rfl
        rotate_left
        · simp only [Act.put, List.setIfInBounds_toArray, List.set_cons_zero, List.set_cons_succ, i64_w, i32_w]
          rfl
        refine pure_ (i := 20) (N := some 59) (v := ?_) (a' := ?_) #[true, true, true, true, true, true, true, true, true, true, true, true, true, true, true, true, true, true, true, true, true, false] rfl rfl (by kernel_rfl) (fun _ _ _ h => h) (Or.inl ⟨by rfl, ?_⟩) ?_ ?_
        rotate_left
        · intro w'
          go_simp
          with_reducible rfl
        rotate_left
        · simp only [Act.put, List.setIfInBounds_toArray, List.set_cons_zero, List.set_cons_succ, i64_w, i32_w]
          rfl
        refine last_ (i := 21) (N := none) #[true, true, true, true, true, true, true, true, true, true, true, true, true, true, true, true, true, true, true, true, true, true] rfl rfl (by kernel_rfl) (by decide) (fun K hK => ?_)
        refine skip_ (w1 := ?_) (by rfl) rfl ?_ ?_
        rotate_left
        · go_simp
          rfl
        refine hK.out _ _ ?_
        clear hK K
        refine done_ (by kernel_rfl) ?_
        have hcl : IntKind.i64.wrap (k : Int) = (k : Int) := by rw [IntKind.wrap_i64]; omega
        have hnew := lay_new (x := ⟨(s : Int), bk, x.dep + 1, 0, .slice none 0 0, []⟩) rfl HPA.out HN.out HM.out HB'.out h1 hgng hpgn hgrow hown1 rfl rfl
        have HNEW := Lib.hid hnew
        clear hnew hfz hcp hHeld hgrow hown1 hat hlt
        generalize w1.setCell ⟨pa, 0, none⟩ (.slice (some ⟨g2, 0, none⟩) (nds.length + 1) cap) = w2 at HNEW ⊢
        have hnext : Hid (LayI w0 w2 pa g cnt lon p (k + 1) nds.length (layFrom p (k + 1) T) O) := by
          obtain ⟨a1, a2, a3, a4⟩ := HNEW.out
          rw [← HT.out] at hin
          rw [lay_step_new hin, HT.out]
          rw [HT.out] at hin
          have hO := H8.out _ hin
          have hms := matches_snoc H5.out h7 hsl (by rw [HW.out]; exact hin) (by rw [HW.out]; exact hO) (.slice none 0 0)
          rw [HW.out, ← HD.out] at hms
          rw [HW.out] at a3
          refine ⟨⟨_, _, h1, h2, a1, a2, hms, a3, h7.add hin ?_, fun y hy => H8.out y (fun hm' => hy (List.mem_append_left _ hm'))⟩, a4, List.mem_append_right _ (List.mem_singleton.2 rfl), ?_⟩
          · rw [← HW.out, List.dropLast_concat, HSW.out]; exact hm
          · rw [idx_last hin, H5.out.1]
        go_wp2
        go_roundg (p.length - (k + 1))
        case measure => omega
        case rel => exact ⟨k + 1, _, by go_num, rfl, by omega, Nat.le_refl _, hnext⟩
    · obtain rfl : k = p.length := by omega
      obtain ⟨hL, hB, hm, hs⟩ := HI.out
      obtain ⟨vn, nds, h1, h2, h3, h4, h5, h6, h7, h8⟩ := hL
      rw [List.take_length] at hm hs
      have hlw : layFrom p p.length T = layW T p := rfl
      obtain ⟨T', hT'⟩ : ∃ T', layW T p = T' := ⟨_, rfl⟩
      rw [hlw, hT'] at hm hs h5 h6 h7 h8
      have hsl : s < T'.length := by rw [hs]; exact idx_lt hm
      have hsw : T'.getD s [] = p := by rw [hs]; exact idx_get hm
      have hn0 : 0 < nds.length := by rw [h5.1]; omega
      obtain ⟨gn, cn, rfl, hnc, hgb, cur, hgn⟩ := h4.form hn0
      obtain ⟨x, hx⟩ : ∃ x, nds[s]? = some x := ⟨_, List.getElem?_eq_getElem (by rw [h5.1]; exact hsl)⟩
      have hxo := (h5.2 s x hx).2.2.2.2
      have hpgn : pa ≠ gn := ne_of_types h3 hgn (by decide)
      have HPA := Lib.hid h3
      have HN := Lib.hid h4
      have HO := Lib.hid (h4.outs s x hx)
      unfold OutI at HO
      have hxg : x.out.ownBlock ≠ some gn := h4.out_ne hx
      have hxp : x.out.ownBlock ≠ some pa := fun e => by
        obtain ⟨cells, hc⟩ := own_typed HO.out pa e
        exact absurd rfl (ne_of_types h3 hc (by decide))
      have hxm : x.out.ownBlock ≠ some g := fun e => by
        obtain ⟨cells, hc⟩ := own_typed HO.out g e
        exact absurd rfl (map_ne h6 hc)
      have hcp0 : wr.cell? ⟨gn, s * 5 + 4, none⟩ = some x.out := h4.cell hx (by decide)
      have ca : wr.drew.cell? ⟨pa, 0, none⟩ = some (.slice (some ⟨gn, 0, none⟩) nds.length cn) := by
        show wr.cell? _ = _
        simp [World.cell?, h3]
      have cd : wr.drew.cell? ⟨gn, s * 5 + 4, none⟩ = some x.out := hcp0
      have HFZ : Hid (∀ w1 box, (wr.drew.alloc box).grownBy w1 x.out.ownBlock → w1.frozen? ⟨gn, s * 5 + 4, none⟩ = false) := fun w1 box hg => by
        have := blk_kept hgn (Ne.symm hxg) hg
        simp [World.frozen?, this]
      have HCP : Hid (∀ w1 box, (wr.drew.alloc box).grownBy w1 x.out.ownBlock → w1.cell? ⟨gn, s * 5 + 4, none⟩ = some x.out) := fun w1 box hg => by
        rw [World.cell?_of_block (w := wr) (a := ⟨gn, s * 5 + 4, none⟩) (by
          rw [blk_kept hgn (Ne.symm hxg) hg]; exact hgn.symm)]
        exact hcp0
      have hol : x.outs.length ≤ 4000 := by rw [hxo]; exact HOL.out _
      have HS := Lib.hid hs
      have HT := Lib.hid hT'
      have HSW := Lib.hid hsw
      have HX := Lib.hid hx
      have HXO := Lib.hid hxo
      have H5 := Lib.hid h5
      have H6 := Lib.hid h6
      have H8 := Lib.hid h8
      have HG := Lib.hid hgn
      have hsn : (s : Int) < (nds.length : Int) := by rw [h5.1]; omega
      clear hs hT' hsw hx hxo h3 h5 h6 h8 hgn hlw hcp0
      obtain ⟨i0, hi, hz0, hz1, hz2⟩ := info_parts info3
      have hmx1 : x.outs.length + 1 ≤ maxLen := by unfold maxLen; omega
      have hmx2 : (x.outs.length + 1) * 8 ≤ 140737488355328 := by omega
      generalize hwq : wr = wq at HPA HN HO ca cd HFZ HCP hB H6 HG ⊢
      clear hwq
      have hbw1 : w0.heap.size ≤ (wq.drew.alloc (.cells #[.int .i64 id] 3)).heap.size := by have := hB.size; simp; omega
      go_wp2_with fail
      refine start_ (n := 19) (S := (fun w' => w'.cell? ⟨pa, 0, none⟩ = some (.slice (some ⟨gn, 0, none⟩) nds.length cn) ∧ w'.cell? ⟨gn, s * 5 + 4, none⟩ = some x.out)) (ds := [18]) #[false, false, false, false, false, false, false, false, false, false, false, false, false, false, false, false, false, false, false] (by kernel_rfl) rfl rfl ?_ (fun hHeld => ?_)
      · exact ⟨ca, cd⟩
      refine pure_ (i := 0) (N := some 62) (v := ?_) (a' := ?_) #[true, false, false, false, false, false, false, false, false, false, false, false, false, false, false, false, false, false, false] rfl rfl (by kernel_rfl) (fun _ _ _ h => h) (Or.inl ⟨by rfl, ?_⟩) ?_ ?_
      rotate_left
      · intro w'
        go_simp
        with_reducible rfl
      rotate_left
      · simp only [Act.put, List.setIfInBounds_toArray, List.set_cons_zero, List.set_cons_succ, i64_w, i32_w]
        rfl
      refine pure_ (i := 1) (N := some 63) (v := ?_) (a' := ?_) #[true, true, false, false, false, false, false, false, false, false, false, false, false, false, false, false, false, false, false] rfl rfl (by kernel_rfl) (fun _ _ _ h => h) (Or.inl ⟨by rfl, ?_⟩) ?_ ?_
      rotate_left
      · intro w'
        go_simp
        with_reducible rfl
      rotate_left
      · simp only [Act.put, List.setIfInBounds_toArray, List.set_cons_zero, List.set_cons_succ, i64_w, i32_w]
        rfl
      refine pure_ (i := 2) (N := some 64) (v := ?_) (a' := ?_) #[true, true, true, false, false, false, false, false, false, false, false, false, false, false, false, false, false, false, false] rfl rfl (by kernel_rfl) (fun _ _ _ h => h) (Or.inl ⟨by rfl, ?_⟩) ?_ ?_
      rotate_left
      · intro w'
        go_simp
        with_reducible rfl
      rotate_left
      · simp only [Act.put, List.setIfInBounds_toArray, List.set_cons_zero, List.set_cons_succ, i64_w, i32_w]
        rfl
      refine take_ (i := 3) (N := some 65) (v := ?_) (a' := ?_) #[true, true, true, true, false, false, false, false, false, false, false, false, false, false, false, false, false, false, false] rfl rfl (by kernel_rfl) (fun _ _ _ h => h) (Or.inl ⟨by rfl, ?_⟩) hHeld ?_ ?_
      rotate_left
      · rintro w' ⟨s0, s1⟩
        go_simp
        with_reducible rfl
      rotate_left
      · simp only [Act.put, List.setIfInBounds_toArray, List.set_cons_zero, List.set_cons_succ, i64_w, i32_w]
        rfl
      refine pure_ (i := 4) (N := some 66) (v := ?_) (a' := ?_) #[true, true, true, true, true, false, false, false, false, false, false, false, false, false, false, false, false, false, false] rfl rfl (by kernel_rfl) (fun _ _ _ h => h) (Or.inl ⟨by rfl, ?_⟩) ?_ ?_
      rotate_left
      · intro w'
        go_simp
        with_reducible rfl
      rotate_left
      · simp only [Act.put, List.setIfInBounds_toArray, List.set_cons_zero, List.set_cons_succ, i64_w, i32_w]
        rfl
      refine pure_ (i := 5) (N := some 67) (v := ?_) (a' := ?_) #[true, true, true, true, true, true, false, false, false, false, false, false, false, false, false, false, false, false, false] rfl rfl (by kernel_rfl) (fun _ _ _ h => h) (Or.inl ⟨by rfl, ?_⟩) ?_ ?_
      rotate_left
      · intro w'
        go_simp
        with_reducible rfl
      rotate_left
      · simp only [Act.put, List.setIfInBounds_toArray, List.set_cons_zero, List.set_cons_succ, i64_w, i32_w]
        rfl
      refine pure_ (i := 6) (N := some 68) (v := ?_) (a' := ?_) #[true, true, true, true, true, true, true, false, false, false, false, false, false, false, false, false, false, false, false] rfl rfl (by kernel_rfl) (fun _ _ _ h => h) (Or.inl ⟨by rfl, ?_⟩) ?_ ?_
      rotate_left
      · intro w'
        go_simp
        with_reducible rfl
      rotate_left
      · simp only [Act.put, List.setIfInBounds_toArray, List.set_cons_zero, List.set_cons_succ, i64_w, i32_w]
        rfl
      refine pure_ (i := 7) (N := some 69) (v := ?_) (a' := ?_) #[true, true, true, true, true, true, true, true, false, false, false, false, false, false, false, false, false, false, false] rfl rfl (by kernel_rfl) (fun _ _ _ h => h) (Or.inl ⟨by rfl, ?_⟩) ?_ ?_
      rotate_left
      · intro w'
        go_simp
        with_reducible rfl
      rotate_left
      · simp only [Act.put, List.setIfInBounds_toArray, List.set_cons_zero, List.set_cons_succ, i64_w, i32_w]
        rfl
      refine take_ (i := 8) (N := some 70) (v := ?_) (a' := ?_) #[true, true, true, true, true, true, true, true, true, false, false, false, false, false, false, false, false, false, false] rfl rfl (by kernel_rfl) (fun _ _ _ h => h) (Or.inl ⟨by rfl, ?_⟩) hHeld ?_ ?_
      rotate_left
      · rintro w' ⟨s0, s1⟩
        go_simp
        with_reducible rfl
      rotate_left
      · simp only [Act.put, List.setIfInBounds_toArray, List.set_cons_zero, List.set_cons_succ, i64_w, i32_w]
        rfl
      refine pure_ (i := 9) (N := some 71) (v := ?_) (a' := ?_) #[true, true, true, true, true, true, true, true, true, true, false, false, false, false, false, false, false, false, false] rfl rfl (by kernel_rfl) (fun _ _ _ h => h) (Or.inl ⟨by rfl, ?_⟩) ?_ ?_
      rotate_left
      · intro w'
        go_simp
        with_reducible rfl
      rotate_left
      · simp only [Act.put, List.setIfInBounds_toArray, List.set_cons_zero, List.set_cons_succ, i64_w, i32_w]
        rfl
      refine pure_ (i := 10) (N := some 72) (v := ?_) (a' := ?_) #[true, true, true, true, true, true, true, true, true, true, true, false, false, false, false, false, false, false, false] rfl rfl (by kernel_rfl) (fun _ _ _ h => h) (Or.inl ⟨by rfl, ?_⟩) ?_ ?_
      rotate_left
      · intro w'
        go_simp
        with_reducible rfl
      rotate_left
      · simp only [Act.put, List.setIfInBounds_toArray, List.set_cons_zero, List.set_cons_succ, i64_w, i32_w]
        rfl
      refine pure_ (i := 11) (N := some 73) (v := ?_) (a' := ?_) #[true, true, true, true, true, true, true, true, true, true, true, true, false, false, false, false, false, false, false] rfl rfl (by kernel_rfl) (fun _ _ _ h => h) (Or.inl ⟨by rfl, ?_⟩) ?_ ?_
      rotate_left
      · intro w'
        go_simp
        with_reducible rfl
      rotate_left
      · simp only [Act.put, List.setIfInBounds_toArray, List.set_cons_zero, List.set_cons_succ, i64_w, i32_w]
        rfl
      refine take_ (i := 12) (N := some 74) (v := ?_) (a' := ?_) #[true, true, true, true, true, true, true, true, true, true, true, true, true, false, false, false, false, false, false] rfl rfl (by kernel_rfl) (fun _ _ _ h => h) (Or.inl ⟨by rfl, ?_⟩) hHeld ?_ ?_
      rotate_left
      · rintro w' ⟨s0, s1⟩
        go_simp
        with_reducible rfl
      rotate_left
      · simp only [Act.put, List.setIfInBounds_toArray, List.set_cons_zero, List.set_cons_succ, i64_w, i32_w]
        rfl
      refine pure_ (i := 13) (N := some 75) (v := ?_) (a' := ?_) #[true, true, true, true, true, true, true, true, true, true, true, true, true, true, false, false, false, false, false] rfl rfl (by kernel_rfl) (fun _ _ _ h => h) (Or.inl ⟨by rfl, ?_⟩) ?_ ?_
      rotate_left
      · intro w'
        go_simp
        with_reducible rfl
      rotate_left
      · simp only [Act.put, List.setIfInBounds_toArray, List.set_cons_zero, List.set_cons_succ, i64_w, i32_w]
        rfl
      refine one_ (i := 14) (N := some 76) #[true, true, true, true, true, true, true, true, true, true, true, true, true, true, true, false, false, false, false] rfl rfl (by kernel_rfl) (by decide) (fun K hK => ?_)
      refine value_ (v := ?_) (w1 := ?_) (by rfl) rfl ?_ ?_
      rotate_left 2
      · go_simp
        refine ⟨?_, ?_⟩ <;> rfl
      refine hK.out _ _ ⟨cell_alloc_drew_ hHeld.1, cell_alloc_drew_ hHeld.2⟩ (fun hHeld => ?_)
      clear hK K
      refine norm_ (a' := ?_) ?_ ?_
      rotate_left
      · show Act.put _ (some 76) _ = _
        simp only [Act.put, List.setIfInBounds_toArray, List.set_cons_zero, List.set_cons_succ, i64_w, i32_w]
        rfl
      refine one_ (i := 15) (N := some 77) #[true, true, true, true, true, true, true, true, true, true, true, true, true, true, true, true, false, false, false] rfl rfl (by kernel_rfl) (by decide) (fun K hK => ?_)
      refine step_append_lies _ (by rfl) _ _ _ (by rfl) w0.heap.size 3 i0 _ 1 8 Try.underlying34 hi hz0 hz1 hz2 rfl (by decide) _ x.outs.length (nums .i64 x.outs) (by rfl) (HO.out.drew_alloc_ _) ⟨wq.heap.size, 0, none⟩ 1 1 [.int .i64 id] (by rfl) (by rfl) (World.news_of_block (cs := #[.int .i64 id]) (t := 3) (fr := (0, 0)) (heap_alloc_new wq.drew _)) (by simp [Value.oneCell']) (by decide) hmx1 hmx2 hbw1 (wq.heap.size + 1) (by simp) ?_
      intro g2 cap w1 hown1 hgrow hat hlt
      have hfz := HFZ.out _ _ hgrow
      have hcp := HCP.out _ _ hgrow
      have hblk := blk_kept HPA.out (Ne.symm hxp) hgrow
      have hcp2 : w1.cell? ⟨pa, 0, none⟩ = some (.slice (some ⟨gn, 0, none⟩) nds.length cn) := by simp [World.cell?, hblk]
      refine hK.out _ _ ⟨hcp2, hcp⟩ (fun hHeld => ?_)
      clear hK K
      refine norm_ (a' := ?_) ?_ ?_
      rotate_left
      · show Act.put _ (some 77) _ = _
        simp only [Act.put, List.setIfInBounds_toArray, List.set_cons_zero, List.set_cons_succ, i64_w, i32_w]
        rfl
      refine pure_ (i := 16) (N := some 78) (v := ?_) (a' := ?_) #[true, true, true, true, true, true, true, true, true, true, true, true, true, true, true, true, true, false, false] rfl rfl (by kernel_rfl) (fun _ _ _ h => h) (Or.inl ⟨by rfl, ?_⟩) ?_ ?_
      rotate_left
      · intro w'
        go_simp
        with_reducible rfl
      rotate_left
      · simp only [Act.put, List.setIfInBounds_toArray, List.set_cons_zero, List.set_cons_succ, i64_w, i32_w]
        rfl
      refine pure_ (i := 17) (N := some 79) (v := ?_) (a' := ?_) #[true, true, true, true, true, true, true, true, true, true, true, true, true, true, true, true, true, true, false] rfl rfl (by kernel_rfl) (fun _ _ _ h => h) (Or.inl ⟨by rfl, ?_⟩) ?_ ?_
      rotate_left
      · intro w'
        go_simp
        with_reducible rfl
      rotate_left
      · simp only [Act.put, List.setIfInBounds_toArray, List.set_cons_zero, List.set_cons_succ, i64_w, i32_w]
        rfl
      refine last_ (i := 18) (N := none) #[true, true, true, true, true, true, true, true, true, true, true, true, true, true, true, true, true, true, true] rfl rfl (by kernel_rfl) (by decide) (fun K hK => ?_)
      refine skip_ (w1 := ?_) (by rfl) rfl ?_ ?_
      rotate_left
      · go_simp
        rfl
      refine hK.out _ _ ?_
      clear hK K
      refine done_ (by kernel_rfl) ?_
      have hownN : w1.ownsRow w0.heap.size 3 1 (.slice (some ⟨g2, 0, none⟩) (x.outs.length + 1) cap) (x.outs ++ [id]).length (nums .i64 (x.outs ++ [id])) := by
        have e1 : (x.outs ++ [id]).length = x.outs.length + 1 := by simp
        have e2 : nums .i64 (x.outs ++ [id]) = nums .i64 x.outs ++ [.int .i64 id] := by simp [nums]
        rw [e1, e2]; exact hown1
      have HEND := Lib.hid (lay_out HX.out HPA.out HN.out H6.out hB h1 hpgn hxp hxm hgrow hownN (hat.imp (fun e => e.symm) (fun e k hk => by
        have : g2 = k := by simpa [Value.ownBlock] using hk
        omega)))
      clear hfz hcp hHeld hgrow hown1 hat hlt hblk hcp2 hownN
      generalize w1.setCell ⟨gn, s * 5 + 4, none⟩ (.slice (some ⟨g2, 0, none⟩) (x.outs.length + 1) cap) = w2 at HEND ⊢
      have hfin : Hid (LayEnd w0 pa g cnt lon id p T O (.returned (.tuple #[])) w2) := by
        obtain ⟨a1, a2, a3, a4⟩ := HEND.out
        refine ⟨rfl, ?_, a4⟩
        rw [HT.out]
        refine ⟨_, _, h1, h2, a1, a2, ⟨by rw [List.length_set]; exact H5.out.1, fun j y hy => ?_⟩, a3, h7, fun y hy => ?_⟩
        · rw [List.getElem?_set] at hy
          split at hy
          · rename_i e; subst e
            split at hy
            · injection hy with hy
              subst hy
              obtain ⟨q1, q2, q3, q4, q5⟩ := H5.out.2 s x HX.out
              refine ⟨q1, q2, q3, q4, ?_⟩
              rw [HSW.out]
              show x.outs ++ [id] = _
              rw [q5, HSW.out]
              show O p ++ [id] = O p ++ (if p = p then [id] else [])
              rw [if_pos rfl]
            · cases hy
          · rename_i e
            obtain ⟨q1, q2, q3, q4, q5⟩ := H5.out.2 j y hy
            refine ⟨q1, q2, q3, q4, ?_⟩
            have hj := (List.getElem?_eq_some_iff.1 hy).1
            rw [H5.out.1] at hj
            show y.outs = O (T'.getD j []) ++ (if p = T'.getD j [] then [id] else [])
            rw [if_neg (fun e' : p = T'.getD j [] => e (get_inj h7.nodup hsl hj (HSW.out.trans e'))), List.append_nil]
            exact q5
        · show O y ++ (if p = y then [id] else []) = []
          rw [if_neg (fun e : p = y => hy (by rw [← e]; exact hm)), List.append_nil]
          exact H8.out y hy
      go_wp2
      go_end0
      exact hfin.out
end Go.Proofs.Ytdciniefkodeaaa.PAll
