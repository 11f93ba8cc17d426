/- matcher.All, walked. -/
import Derived.Test.YtdciniefkodeaaaQPl7HAdd
set_option linter.unusedVariables false
set_option linter.unusedSimpArgs false
namespace Go.Proofs.Ytdciniefkodeaaa.PAll
open Go.Sort Go.RowKit Go.Proofs.YtdciniefkodeaaaW.PrintWords Go.Proofs.YtdciniefkodeaaaW.PrintLast Go.Proofs.YtdciniefkodeaaaW.PrintMore
/-- The hits behind the first n bytes. -/
def hitsTo (ps : List Wd) (x : Wd) : Nat → List (Int × Int)
  | 0 => []
  | n + 1 => hitsTo ps x n ++ (outsW ps (x.take (n + 1))).map fun k => (k, ((n + 1 : Nat) : Int))
theorem MachAt.moved {w w1 : World} {pa : Nat} {ps : List Wd} (h : MachAt w pa ps) (hm : ∀ (k ty : Nat) (cells : Array Value), w.heap[k]? = some (.cells cells ty (0, 0)) → (ty = 80 ∨ ty = 76 ∨ ty = 86 ∨ ty = 3) → w1.heap[k]? = w.heap[k]?) : MachAt w1 pa ps := by
  obtain ⟨base, gn, cn, gx, nds, h1, h2, h3, h4, ⟨cur, h5, h6⟩, h7⟩ := h.auto
  exact ⟨h.zero, h.bytes, base, gn, cn, gx, nds, (hm pa 80 _ h1 (.inl rfl)).trans h1, h2.keep (fun k cells ty hk ht => hm k ty cells hk (ht.elim (fun e => .inr (.inl e)) (fun e => .inr (.inr (.inr e))))), h3, h4, ⟨cur, (hm gx 86 _ h5 (.inr (.inr (.inl rfl)))).trans h5, h6⟩, h7⟩
/-- What All keeps. -/
structure AllI (w0 w : World) (bo bq bx bm pa : Nat) (v : Value) (ps : List Wd) (hs : List (Int × Int)) (most s t : Int) : Prop where
  add : AddI w0 w bo bq bx bm pa v hs most s t
  mach : MachAt w pa ps
  below : Below w0.heap.size w0 w
  bbo : w0.heap.size ≤ bo
  bbm : w0.heap.size ≤ bm
/-- Rows that a call's own store moves. -/
theorem AllI.step {w0 w w1 : World} {bo bq bx bm pa : Nat} {v : Value} {ps : List Wd} {hs : List (Int × Int)} {most s t s2 t2 : Int} (h : AllI w0 w bo bq bx bm pa v ps hs most s t) (hg : w.grownBy w1 (some bm)) (hm : MatAt w1 bm pa s2 t2) : AllI w0 w1 bo bq bx bm pa v ps hs most s2 t2 := by
  have hk : ∀ (k ty : Nat) (cells : Array Value), w.heap[k]? = some (.cells cells ty (0, 0)) → ty ≠ 91 → w1.heap[k]? = w.heap[k]? := fun k ty cells hk hne =>
    hg.block k (Array.getElem?_eq_some_iff.1 hk).1 (fun e => ne_of_types hk h.add.mat hne (Option.some.inj e))
  refine ⟨⟨(hk bo _ _ h.add.out (by decide)).trans h.add.out, (hk bq _ _ h.add.most (by decide)).trans h.add.most, (hk bx _ _ h.add.box (by decide)).trans h.add.box, hm, own_move h.add.own fun k e => ?_, Nat.le_trans h.add.base hg.size⟩, h.mach.moved fun k ty cells hkk ht => hk k ty cells hkk (by rcases ht with rfl | rfl | rfl | rfl <;> decide), h.below.grown hg h.below.size (fun k e => by rw [← Option.some.inj e]; exact h.bbm), h.bbo, h.bbm⟩
  obtain ⟨c, hc⟩ := own_typed h.add.own k e
  exact hk k 49 c hc (by decide)
theorem AllI.took {w0 w w1 : World} {bo bq bx bm pa : Nat} {v v' : Value} {ps : List Wd} {hs hs' : List (Int × Int)} {most s t : Int} (h : AllI w0 w bo bq bx bm pa v ps hs most s t) (ha : AddI w0 w1 bo bq bx bm pa v' hs' most s t) (hb : ∀ k, k < w.heap.size → k ≠ bo → some k ≠ v.ownBlock → w1.heap[k]? = w.heap[k]?) (h1 : w1.os = w.os) (h2 : w1.tape = w.drew.tape) (h3 : w1.output = w.output) (h4 : w.heap.size ≤ w1.heap.size) :
    AllI w0 w1 bo bq bx bm pa v' ps hs' most s t ∧ ∀ {base : Nat} {u : Value} {xs : List Int}, OwnI w base u xs → OwnI w1 base u xs := by
  have hk : ∀ (k ty : Nat) (cells : Array Value), w.heap[k]? = some (.cells cells ty (0, 0)) → ty ≠ 42 → ty ≠ 49 → w1.heap[k]? = w.heap[k]? := fun k ty cells hk hne1 hne2 =>
    hb k (Array.getElem?_eq_some_iff.1 hk).1 (ne_of_types hk h.add.out hne1) (fun e => by
      obtain ⟨c, hc⟩ := own_typed h.add.own k e.symm
      exact absurd rfl (ne_of_types hk hc hne2))
  have hbel : Below w.heap.size w w → Below w0.heap.size w0 w1 := fun _ => by
    refine ⟨h1.trans h.below.os, h2.trans h.below.tape, h3.trans h.below.output, Nat.le_trans h.below.size h4, fun k hkl => ?_⟩
    rw [hb k (Nat.lt_of_lt_of_le hkl h.below.size) (by have := h.bbo; omega) (fun e => by have := own_base h.add.own k e.symm; omega)]
    exact h.below.block k hkl
  refine ⟨⟨ha, h.mach.moved fun k ty cells hkk ht => hk k ty cells hkk (by rcases ht with rfl | rfl | rfl | rfl <;> decide) (by rcases ht with rfl | rfl | rfl | rfl <;> decide), hbel (Below.refl _ _), h.bbo, h.bbm⟩, fun {base u xs} ho => ?_⟩
  exact own_move ho fun k e => by
    obtain ⟨c, hc⟩ := own_typed ho k e
    exact hk k 3 c hc (by decide) (by decide)
theorem AllI.drewN {w0 w : World} {bo bq bx bm pa : Nat} {v : Value} {ps : List Wd} {hs : List (Int × Int)} {most s t : Int} (h : AllI w0 w bo bq bx bm pa v ps hs most s t) (q : Nat) : AllI w0 (w.drewN q) bo bq bx bm pa v ps hs most s t :=
  ⟨⟨h.add.out, h.add.most, h.add.box, h.add.mat, h.add.own, h.add.base⟩, h.mach.drewN q, below_drewN' h.below q, h.bbo, h.bbm⟩
theorem all_start {w w1 : World} {pa bm : Nat} {ps : List Wd} {most : Int} (hm : MachAt w pa ps) (hmat : MatAt w1 bm pa 0 0) (hbm : bm = (w.alloc (.cells #[.int .i64 most] 3)).heap.size) (hb : Below (w.alloc (.cells #[.int .i64 most] 3)).heap.size (w.alloc (.cells #[.int .i64 most] 3)) w1) :
    AllI w ((w1.alloc (.cells #[.pointer (some ⟨bm, 0, none⟩)] 62)).alloc (.cells #[.slice none 0 0] 42)) (w1.heap.size + 1) w.heap.size w1.heap.size bm pa (.slice none 0 0) ps [] most 0 0 := by
  have s0 : (w.alloc (.cells #[.int .i64 most] 3)).heap.size = w.heap.size + 1 := by simp
  have s1 := hb.size
  have b0 : Below w.heap.size w (w.alloc (.cells #[.int .i64 most] 3)) := (Below.refl _ w).alloc (Nat.le_refl _) _
  have b1 : Below w.heap.size w w1 := b0.trans (hb.mono (by omega))
  generalize ha : w1.alloc (.cells #[.pointer (some ⟨bm, 0, none⟩)] 62) = wa
  have sa : wa.heap.size = w1.heap.size + 1 := by rw [← ha]; simp
  have hx : wa.heap[w1.heap.size]? = some (.cells #[.pointer (some ⟨bm, 0, none⟩)] 62 (0, 0)) := by rw [← ha]; exact heap_alloc_new w1 _
  have hba : Below w1.heap.size w1 wa := by rw [← ha]; exact (Below.refl _ _).alloc (Nat.le_refl _) _
  have ho := heap_alloc_new wa (.cells #[.slice none 0 0] 42)
  rw [sa] at ho
  have hbb : Below wa.heap.size wa (wa.alloc (.cells #[.slice none 0 0] 42)) := (Below.refl _ _).alloc (Nat.le_refl _) _
  have hq : w1.heap[w.heap.size]? = some (.cells #[.int .i64 most] 3 (0, 0)) := (hb.block _ (by omega)).trans (heap_alloc_new w _)
  have hq1 : w.heap.size < w1.heap.size := by omega
  have h1b : Below w1.heap.size w1 (wa.alloc (.cells #[.slice none 0 0] 42)) := hba.trans (hbb.mono (by omega))
  have hmw : MatAt (wa.alloc (.cells #[.slice none 0 0] 42)) bm pa 0 0 := hmat.below h1b
  refine ⟨⟨ho, (h1b.block _ hq1).trans hq, (hbb.block _ (by omega)).trans hx, hmw, ⟨rfl, .inl ⟨rfl, rfl⟩⟩, ?_⟩, hm.below (b1.trans (h1b.mono (by omega))), b1.trans (h1b.mono (by omega)), by omega, by omega⟩
  have := hbb.size
  omega
/-- What All tells. -/
def allW (ps : List Wd) (x : Wd) (most : Int) : List (Int × Int) × Bool := ((hitsTo ps x x.length).take most.toNat, decide ((hitsTo ps x x.length).length ≤ most.toNat))
theorem hits_le {ps : List Wd} (hp : ps.length ≤ 64) (x : Wd) : ∀ n, (hitsTo ps x n).length ≤ 64 * n
  | 0 => Nat.le_refl _
  | n + 1 => by
    have h1 := hits_le hp x n
    have h2 := (outs_len hp (x.take (n + 1))).1
    rw [hitsTo, List.length_append, List.length_map]
    omega
theorem hits_pre (ps : List Wd) (x : Wd) (n : Nat) : ∀ m, ∃ r, hitsTo ps x (n + m) = hitsTo ps x n ++ r
  | 0 => ⟨[], by simp⟩
  | m + 1 => by
    obtain ⟨r, hr⟩ := hits_pre ps x n m
    exact ⟨_, by rw [← Nat.add_assoc, hitsTo, hr, List.append_assoc]⟩
/-- The call, from the arguments. -/
structure AllEnd (w : World) (ps : List Wd) (x : Wd) (most : Int) (e : Ending) (w' : World) : Prop where
  below : Below w.heap.size w w'
  ret : ∃ v, e = .returned (.tuple #[v, .bool (allW ps x most).2]) ∧ w'.ownsRow w.heap.size 49 3 v (allW ps x most).1.length (flatH (allW ps x most).1)
set_option maxHeartbeats 3000000 in
set_option maxRecDepth 1000000 in
theorem all_calls (w : World) (pa : Nat) (ps : List Wd) (A1 : Option Addr) (c1 : Nat) (x : Wd) (most : Int) (hm : MachAt w pa ps) (hx : TxAt w A1 c1 x) (hl : x.length ≤ 1048576) :
    Calls Try.prog 31 #[.pointer (some ⟨pa, 0, none⟩), .slice A1 x.length c1, .int .i64 most] w (AllEnd w ps x most) := by
  have HM := Lib.hid hm
  have HX := Lib.hid hx
  have K0 := Lib.hid (new_calls (w.alloc (.cells #[.int .i64 most] 3)) pa)
  clear hm hx
  go_enter Try.func31, Try.ntmps31
  go_wp2_with fail
  refine K0.out.mono ?_
  rintro e w1 ⟨bm, rfl, hbm, hmat, hb⟩
  have HB1 := Lib.hid hb
  have HMT := Lib.hid hmat
  have HBM := Lib.hid hbm
  clear hb hmat hbm K0
  go_wp2
  have HI : Hid (AllI w ((w1.alloc (.cells #[.pointer (some ⟨bm, 0, none⟩)] 62)).alloc (.cells #[.slice none 0 0] 42)) (w1.heap.size + 1) w.heap.size w1.heap.size bm pa (.slice none 0 0) ps [] most 0 0) := all_start HM.out HMT.out HBM.out HB1.out
  generalize (w1.alloc (.cells #[.pointer (some ⟨bm, 0, none⟩)] 62)).alloc (.cells #[.slice none 0 0] 42) = w2 at HI ⊢
  obtain ⟨bo, hbo⟩ : ∃ bo, w1.heap.size + 1 = bo := ⟨_, rfl⟩
  obtain ⟨bx, hbx⟩ : ∃ bx, w1.heap.size = bx := ⟨_, rfl⟩
  obtain ⟨bq, hbq⟩ : ∃ bq, w.heap.size = bq := ⟨_, rfl⟩
  rw [hbo, hbx] at HI ⊢
  clear hbq hbo hbx HB1 HMT HBM
  have hpl := (chkW_zero HM.out.zero).2.1
  go_loopg [26] x.length (fun g1 vi wr => ∃ (i s : Nat) (v : Value), vi = .int .i64 (i : Int) ∧ i ≤ x.length ∧ x.length - i ≤ g1 ∧ Hid (StAt ps s (x.take i)) ∧ Hid ((hitsTo ps x i).length ≤ most.toNat) ∧ Hid (AllI w wr bo w.heap.size bx bm pa v ps (hitsTo ps x i) most (s : Int) (i : Int)))
  case atStart => exact ⟨0, 0, _, rfl, Nat.zero_le _, Nat.le_refl _, st_zero ps, Nat.zero_le _, HI⟩
  case round =>
    clear HI
    obtain ⟨i, s, v, rfl, hi, hg1, HS, HL, HI⟩ := hrel
    by_cases hlt : i < x.length
    · have hiz : (i : Int) < (x.length : Int) := by omega
      obtain ⟨ad, rfl, hcell⟩ := tx_byte (HX.out.below HI.out.below) hlt
      obtain ⟨b, hb⟩ : ∃ b, x.getD i 0 = b := ⟨_, rfl⟩
      have hbb := text_byte HX.out.bytes hlt
      have hnx := st_next HS.out b
      have hts := text_step hlt
      rw [hb] at hcell hbb hts
      rw [← hts] at hnx
      have KN := Lib.hid (step_calls wr bm pa ps (s : Int) (i : Int) b HI.out.add.mat HI.out.mach hbb ⟨by omega, by omega⟩)
      rw [hnx.1] at KN
      obtain ⟨s2, hs2⟩ : ∃ s2, nxT (trie ps) s b = s2 := ⟨_, rfl⟩
      rw [hs2] at KN hnx
      have HS2 := Lib.hid hnx.2
      have hat : atT (i : Int) = ((i + 1 : Nat) : Int) := by unfold atT; rw [if_neg (by omega)]; omega
      rw [st_out HS2.out, hat] at KN
      have cbx : wr.cell? ⟨bx, 0, none⟩ = some (.pointer (some ⟨bm, 0, none⟩)) := by rw [cell_of_row _ _ _ _ _ _ HI.out.add.box]; rfl
      clear hb hbb hnx hts hs2 HS hat
      go_wp2_with fail
      refine KN.out.mono ?_
      rintro e w4 ⟨vo, rfl, ho, hm4, hg4⟩
      have HI4 := Lib.hid (HI.out.step hg4 hm4)
      obtain ⟨Lo, hLo⟩ : ∃ L, outsW ps (x.take (i + 1)) = L := ⟨_, rfl⟩
      rw [hLo] at ho
      have hLl : Lo.length ≤ 64 := by rw [← hLo]; exact (outs_len hpl _).1
      obtain ⟨Ao, co, hvo, hco, hCo⟩ := own_ints_reads ho
      have HO4 := Lib.hid ho
      have HLo := Lib.hid hLo
      subst hvo
      obtain ⟨B0, hB0⟩ : ∃ B0, wr.heap.size = B0 := ⟨_, rfl⟩
      rw [hB0] at HO4
      clear hm4 hg4 KN hcell cbx HI hLo hCo ho hB0
      have h64 := hits_le hpl x i
      have H64 := Lib.hid h64
      clear h64
      go_wp2
      go_loopg [34] Lo.length (fun g2 vj wr => ∃ (j : Nat) (v : Value), vj = .int .i64 (j : Int) ∧ j ≤ Lo.length ∧ Lo.length - j ≤ g2 ∧ Hid ((hitsTo ps x i ++ (Lo.take j).map fun k => (k, ((i + 1 : Nat) : Int))).length ≤ most.toNat) ∧ Hid (AllI w wr bo w.heap.size bx bm pa v ps (hitsTo ps x i ++ (Lo.take j).map fun k => (k, ((i + 1 : Nat) : Int))) most (s2 : Int) ((i + 1 : Nat) : Int)) ∧ Hid (OwnI wr B0 (.slice Ao Lo.length co) Lo))
      case atStart => exact ⟨0, v, rfl, Nat.zero_le _, Nat.le_refl _, by rw [Hid, List.take_zero, List.map_nil, List.append_nil]; exact HL.out, by rw [Hid, List.take_zero, List.map_nil, List.append_nil]; exact HI4.out, HO4⟩
      case round =>
        clear HI4 HO4 HL
        obtain ⟨j, v, rfl, hj, hg2, HL, HI5, HO5⟩ := hrel
        obtain ⟨hsj, hhs⟩ : ∃ l, (hitsTo ps x i ++ (Lo.take j).map fun k => (k, ((i + 1 : Nat) : Int))) = l := ⟨_, rfl⟩
        have hsl : hsj.length ≤ 67108864 := by
          rw [← hhs, List.length_append, List.length_map, List.length_take]
          have := H64.out
          omega
        by_cases hjl : j < Lo.length
        · have hjz : (j : Int) < (Lo.length : Int) := by omega
          obtain ⟨Ao', co', e', _, hCo⟩ := own_ints_reads HO5.out
          injection e' with ea en ec
          subst ea
          obtain rfl : co = co' := ec
          obtain ⟨ado, cso, eo, _, hKo, hco2⟩ := Kd.C_get hCo (0 : Int) (j : Int) (by omega) (by omega)
          obtain ⟨id, hid⟩ : ∃ id, Lo.getD j 0 = id := ⟨_, rfl⟩
          have hcell : wr.cell? (ado.add j) = some (.int .i64 id) := by
            have := hco2 0 _ (by rw [hKo]; rfl)
            rw [Int.toNat_natCast, show j * (Kd.int IntKind.i64).sz + 0 = j from Nat.mul_one j, hid] at this
            exact this
          subst eo
          have hnext : (hitsTo ps x i ++ (Lo.take (j + 1)).map fun k => (k, ((i + 1 : Nat) : Int))) = hsj ++ [(id, ((i + 1 : Nat) : Int))] := by
            rw [text_step hjl, hid, List.map_append, ← List.append_assoc, hhs]; rfl
          rw [hhs] at HI5 HL
          have KA := Lib.hid (add_calls w wr bo w.heap.size bx bm pa v hsj most (s2 : Int) ((i + 1 : Nat) : Int) id HI5.out.add hsl)
          have HHS := Lib.hid hhs
          have HN := Lib.hid hnext
          have HID := Lib.hid hid
          clear hCo hKo hco2 hhs hnext hid hsl
          go_wp2_with fail
          refine KA.out.mono ?_
          rintro e w6 ⟨hno, hyes⟩
          by_cases hm : most ≤ (hsj.length : Int)
          · obtain ⟨rfl, q, rfl⟩ := hno hm
            have hlen : hsj.length = most.toNat := by have := HL.out; omega
            have e1 : allW ps x most = (hsj, false) := by
              obtain ⟨m, hm'⟩ : ∃ m, x.length = (i + 1) + m := ⟨x.length - (i + 1), by omega⟩
              obtain ⟨r, hr⟩ := hits_pre ps x (i + 1) m
              have e2 : hitsTo ps x (i + 1) = hsj ++ (Lo.drop j).map fun k => (k, ((i + 1 : Nat) : Int)) := by
                rw [hitsTo, HLo.out, ← HHS.out, List.append_assoc, ← List.map_append, List.take_append_drop]
              have e3 : hitsTo ps x x.length = hsj ++ ((Lo.drop j).map (fun k => (k, ((i + 1 : Nat) : Int))) ++ r) := by
                rw [hm', hr, e2, List.append_assoc]
              have e4 : 0 < (Lo.drop j).length := by rw [List.length_drop]; omega
              unfold allW
              rw [e3, decide_eq_false (by rw [List.length_append, List.length_append, List.length_map]; omega), ← hlen, List.take_left]
            have cob : wr.cell? ⟨bo, 0, none⟩ = some v := by rw [cell_of_row _ _ _ _ _ _ HI5.out.add.out]; rfl
            obtain ⟨Av, cv, hv⟩ := own_slice HI5.out.add.own
            have hown := (HI5.out.drewN q).add.own
            have hbel := (HI5.out.drewN q).below
            subst hv
            have HOwn := Lib.hid hown
            have HBel := Lib.hid hbel
            have HE1 := Lib.hid e1
            clear hown hbel hno hyes KA hlen e1 HI5
            go_wp2
            go_ret2
            exact ⟨HBel.out, _, by rw [HE1.out]; rfl, by rw [HE1.out]; exact HOwn.out⟩
          · obtain ⟨rfl, v', ha, hb1, hb2, hb3, hb4, hb5⟩ := hyes (by omega)
            have ht := HI5.out.took ha hb1 hb2 hb3 hb4 hb5
            have HI6 := Lib.hid ht.1
            have HO6 := Lib.hid (ht.2 HO5.out)
            clear hno hyes ha hb1 hb2 hb3 hb4 hb5 ht KA hcell
            go_wp2
            go_roundg (Lo.length - (j + 1))
            case measure => omega
            case rel => exact ⟨j + 1, v', by go_num, by omega, Nat.le_refl _, by rw [Hid, HN.out, List.length_append]; have := HL.out; show hsj.length + 1 ≤ _; omega, by rw [HN.out]; exact HI6, HO6⟩
        · obtain rfl : j = Lo.length := by omega
          have e1 : hitsTo ps x (i + 1) = hsj := by rw [hitsTo, HLo.out, ← hhs, List.take_length]
          rw [hhs, ← e1] at HI5 HL
          clear hhs hsl e1
          go_wp2
          go_roundg (x.length - (i + 1))
          case measure => omega
          case rel => exact ⟨i + 1, s2, v, by go_num, by omega, Nat.le_refl _, HS2, HL, HI5⟩
    · obtain rfl : i = x.length := by omega
      have co : wr.cell? ⟨bo, 0, none⟩ = some v := by rw [cell_of_row _ _ _ _ _ _ HI.out.add.out]; rfl
      obtain ⟨Av, cv, hv⟩ := own_slice HI.out.add.own
      have hown := HI.out.add.own
      have hbel := HI.out.below
      have hL := HL.out
      subst hv
      have HOwn := Lib.hid hown
      have HBel := Lib.hid hbel
      clear hown hbel hL HI
      go_wp2
      go_ret2
      have e1 : allW ps x most = (hitsTo ps x x.length, true) := by
        unfold allW
        rw [decide_eq_true HL.out, List.take_of_length_le HL.out]
      exact ⟨HBel.out, _, by rw [e1]; rfl, by rw [e1]; exact HOwn.out⟩
end Go.Proofs.Ytdciniefkodeaaa.PAll
