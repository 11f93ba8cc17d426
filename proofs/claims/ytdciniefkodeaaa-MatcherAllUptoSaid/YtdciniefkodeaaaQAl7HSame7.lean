/- Lists of hits: the reference's Same, cuts, All's answer as a list that is read. -/
import Derived.Test.YtdciniefkodeaaaQAl7HNobody7
set_option linter.unusedVariables false
set_option linter.unusedSimpArgs false
namespace Go.Proofs.Ytdciniefkodeaaa.PAll
open Go.Sort Go.RowKit Go.Proofs.YtdciniefkodeaaaW.PrintWords Go.Proofs.YtdciniefkodeaaaW.PrintLast Go.Proofs.YtdciniefkodeaaaW.PrintMore
theorem rdT_nat (l : List (Int × Int)) {i : Nat} (h : i < l.length) : rd_T49 (l.map toS) (i : Int) = toS l[i] := by
  unfold rd_T49
  rw [Int.toNat_natCast, List.getD_eq_getElem?_getD, List.getElem?_map, List.getElem?_eq_getElem h]; rfl
theorem same7_l0 (a b : List (Int × Int)) (hl : a.length = b.length) (hn : a.length ≤ 67108864) : ∀ (d i k : Nat), a.length - i = d → i ≤ a.length → d + 2 ≤ k → winkleref07_Same.l0 k (a.map toS) (b.map toS) (i : Int) = some (decide (a.drop i = b.drop i))
  | 0, i, k + 1, hd, hi, hk => by
    obtain rfl : i = a.length := by omega
    rw [winkleref07_Same.l0, if_neg (by rw [List.length_map]; omega), List.drop_length, hl, List.drop_length]
    simp
  | d + 1, i, k + 1, hd, hi, hk => by
    have h1 : i < a.length := by omega
    have h2 : i < b.length := by omega
    have ih := same7_l0 a b hl hn d (i + 1) k (by omega) (by omega) (by omega)
    rw [winkleref07_Same.l0, if_pos (by rw [List.length_map]; omega), if_pos (by omega), if_pos (by rw [List.length_map]; omega), rdT_nat a h1, rdT_nat b h2, wrap_succ i a.length h1 (by omega), ih, List.drop_eq_getElem_cons h1, List.drop_eq_getElem_cons h2]
    show (if a[i].1 = b[i].1 then (if a[i].2 = b[i].2 then ((winkleref06_Ints.f k [] []).bind fun t => if t = true then _ else _) else _) else _) = _
    rw [ints_is [] [] (by simp) k (by show 0 < k; omega)]
    by_cases e1 : a[i].1 = b[i].1
    · rw [if_pos e1]
      by_cases e2 : a[i].2 = b[i].2
      · rw [if_pos e2]
        show some _ = some _
        congr 1
        rw [decide_eq_decide]
        have e : a[i] = b[i] := Prod.ext e1 e2
        exact ⟨fun h => by rw [h, e], fun h => (List.cons.inj h).2⟩
      · rw [if_neg e2, decide_eq_false (fun h => e2 (by rw [(List.cons.inj h).1]))]
    · rw [if_neg e1, decide_eq_false (fun h => e1 (by rw [(List.cons.inj h).1]))]
theorem same7_is (a b : List (Int × Int)) (hn : a.length ≤ 67108864) (k : Nat) (hk : a.length + 2 ≤ k) : winkleref07_Same.f k (a.map toS) (b.map toS) = some (decide (a = b)) := by
  unfold winkleref07_Same.f
  rw [List.length_map, List.length_map]
  by_cases hl : a.length = b.length
  · rw [if_pos (by omega)]
    exact same7_l0 a b hl hn a.length 0 k (by omega) (by omega) hk
  · rw [if_neg (by omega), decide_eq_false (fun h => hl (by rw [h]))]
/-- A list of hits that is read. -/
structure HtAt (w : World) (A : Option Addr) (c : Nat) (hs : List (Int × Int)) : Prop where
  reads : Kd.C k49 w A hs.length (hs.map toS)
  cap : hs.length ≤ c
  size : hs.length ≤ 67108864
theorem HtAt.below {w w1 : World} {A : Option Addr} {c : Nat} {hs : List (Int × Int)} (h : HtAt w A c hs) (hb : Below w.heap.size w w1) : HtAt w1 A c hs := ⟨Kd.C_below h.reads hb, h.cap, h.size⟩
theorem ht_of {w : World} {base : Nat} {v : Value} {hs : List (Int × Int)} (h : w.ownsRow base 49 3 v hs.length (flatH hs)) (hl : hs.length ≤ 67108864) : ∃ A c, v = .slice A hs.length c ∧ HtAt w A c hs := by
  obtain ⟨A, c, h1, h2, h3⟩ := hits_reads h hl
  rw [List.length_map] at h1 h2 h3
  exact ⟨A, c, h1, h3, h2, hl⟩
theorem same7_ctr {w : World} {A B : Option Addr} {c d : Nat} {a b : List (Int × Int)} (h1 : HtAt w A c a) (h2 : HtAt w B d b) : Calls Try.prog 34 #[.slice A a.length c, .slice B b.length d] w fun e w' => e = .returned (.bool (decide (a = b))) ∧ Below w.heap.size w w' := by
  have h := winkleref07_Same.calls (a.length + 2) A c (a.map toS) B d (b.map toS) (decide (a = b)) w (by rw [List.length_map]; exact h1.reads) (by rw [List.length_map]; exact h1.cap) (by rw [List.length_map]; exact h2.reads) (by rw [List.length_map]; exact h2.cap) (same7_is a b h1.size _ (Nat.le_refl _))
  rw [List.length_map, List.length_map] at h
  exact h
theorem all_ctr {w : World} {pa : Nat} {ps : List Wd} {A1 : Option Addr} {c1 : Nat} {x : Wd} (most : Int) (hm : MachAt w pa ps) (hx : TxAt w A1 c1 x) (hl : x.length ≤ 1048576) :
    Calls Try.prog 31 #[.pointer (some ⟨pa, 0, none⟩), .slice A1 x.length c1, .int .i64 most] w fun e w' => Below w.heap.size w w' ∧ ∃ A c, e = .returned (.tuple #[.slice A (allW ps x most).1.length c, .bool (allW ps x most).2]) ∧ HtAt w' A c (allW ps x most).1 := by
  refine (all_calls w pa ps A1 c1 x most hm hx hl).mono ?_
  rintro e w' ⟨hb, v, rfl, ho⟩
  have hp := (chkW_zero hm.zero).2.1
  have h1 := hits_le hp x x.length
  obtain ⟨A, c, rfl, hh⟩ := ht_of ho (by unfold allW; rw [List.length_take]; omega)
  exact ⟨hb, A, c, rfl, hh⟩
end Go.Proofs.Ytdciniefkodeaaa.PAll
