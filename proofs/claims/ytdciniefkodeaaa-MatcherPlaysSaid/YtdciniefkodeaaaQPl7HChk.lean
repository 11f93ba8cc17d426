/- patterns.Check, walked. -/
import Derived.Test.YtdciniefkodeaaaQPl7HCmp
import Derived.Test.YtdciniefkodeaaaQPl7HTrie
import Derived.Test.YtdciniefkodeaaaQPl7WWords
import Derived.Test.YtdciniefkodeaaaQPl7WLast
import Derived.Test.YtdciniefkodeaaaQPl7WMore
set_option linter.unusedVariables false
set_option linter.unusedSimpArgs false
namespace Go.Proofs.Ytdciniefkodeaaa.PAll
open Go.Sort Go.RowKit Go.Proofs.YtdciniefkodeaaaW.PrintWords Go.Proofs.YtdciniefkodeaaaW.PrintLast Go.Proofs.YtdciniefkodeaaaW.PrintMore
/-- What Check tells of the patterns that are left, these having been seen. -/
def chkL : List Wd → List Wd → Int
  | _, [] => 0
  | seen, p :: r => if p = [] then 61 else if 32 < p.length then 62 else if p ∈ seen then 63 else chkL (seen ++ [p]) r
def chkW (ps : List Wd) : Int := if ps.length = 0 ∨ 64 < ps.length then 60 else chkL [] ps
def BytesOk (ps : List Wd) : Prop := ∀ x ∈ ps, ∀ b ∈ x, 0 ≤ b ∧ b ≤ 255
theorem bytesIn_of_C {w : World} {A : Option Addr} {n : Nat} {xs : Wd} (h : (Kd.int .u8).C w A n xs) : Lib.BytesIn w A n xs := by
  intro hn
  have hr := Kd.reads_of_C (enc := Value.int .u8) (d := (0 : Int)) (h1 := fun _ => rfl) h
  obtain ⟨ad, rfl, hc⟩ := hr.2.2 hn
  exact (Lib.BytesIn.of_cells (w := w) (a := ad) (n := n) (xs := xs) hc) hn
theorem bytesOf_inj : ∀ {xs ys : Wd}, (∀ b ∈ xs, 0 ≤ b ∧ b ≤ 255) → (∀ b ∈ ys, 0 ≤ b ∧ b ≤ 255) → (Lib.bytesOf xs == Lib.bytesOf ys) = (xs == ys)
  | [], [], _, _ => rfl
  | [], y :: ys, _, _ => rfl
  | x :: xs, [], _, _ => rfl
  | x :: xs, y :: ys, h1, h2 => by
    have ih := bytesOf_inj (fun b hb => h1 b (List.mem_cons_of_mem _ hb)) (fun b hb => h2 b (List.mem_cons_of_mem _ hb))
    have b1 := h1 x List.mem_cons_self
    have b2 := h2 y List.mem_cons_self
    have e : (UInt8.ofNat x.toNat == UInt8.ofNat y.toNat) = (x == y) := by
      rw [Bool.eq_iff_iff]
      simp only [beq_iff_eq]
      constructor
      · intro e
        have := congrArg UInt8.toNat e
        simp at this
        omega
      · rintro rfl; rfl
    show (UInt8.ofNat x.toNat :: Lib.bytesOf xs == UInt8.ofNat y.toNat :: Lib.bytesOf ys) = _
    rw [List.cons_beq_cons, List.cons_beq_cons, e, ih]
/-- The slices that a row of byte slices holds. -/
theorem vals_of_C {w : World} {A : Option Addr} {n : Nat} {ps : List Wd} (h : (Kd.slice 5 (Kd.int .u8)).C w A n ps) (hn : 0 < n) :
    ∃ (b off : Nat) (vs : Nat → Value), A = some ⟨b, off, none⟩ ∧ (∀ j, j < n → w.cell? ⟨b, off + j, none⟩ = some (vs j)) ∧ ∀ j, ∃ Aj cj, vs j = .slice Aj (ps.getD j []).length cj ∧ (ps.getD j []).length ≤ cj ∧ (Kd.int .u8).C w Aj (ps.getD j []).length (ps.getD j []) := by
  have hl : ps.length = n := h.1
  obtain ⟨ad, rfl, hc⟩ := h.2.2 hn
  have hj : ∀ j, j < n → ∃ v, w.cell? (ad.add j) = some v ∧ ∃ Aj cj, v = .slice Aj (ps.getD j []).length cj ∧ (ps.getD j []).length ≤ cj ∧ (Kd.int .u8).C w Aj (ps.getD j []).length (ps.getD j []) := fun j hj => by
    obtain ⟨c, hs, ⟨Aj, cj, rfl, h1, h2⟩, hcell⟩ := hc j _ (List.getElem?_eq_getElem (by omega))
    have e : ps.getD j [] = ps[j]'(by omega) := by rw [List.getD_eq_getElem?_getD, List.getElem?_eq_getElem (by omega)]; rfl
    refine ⟨_, ?_, Aj, cj, rfl, ?_, ?_⟩
    · have := hcell 0 _ rfl
      rw [show j * (Kd.slice 5 (Kd.int .u8)).sz + 0 = j from by show j * 1 + 0 = j; omega] at this
      rw [e]; exact this
    · rw [e]; exact h1
    · rw [e]; exact h2
  obtain ⟨v0, hv0, _⟩ := hj 0 hn
  obtain ⟨b, o, s⟩ := ad
  obtain rfl : s = none := by simpa [Addr.add] using World.cell?_spot hv0
  refine ⟨b, o, fun j => (w.cell? ⟨b, o + j, none⟩).getD (.slice none 0 0) |> fun v => if j < n then v else .slice none 0 0, rfl, fun j hjn => ?_, fun j => ?_⟩
  · obtain ⟨v, hv, _⟩ := hj j hjn
    rw [Go.WideShapes.add_plain] at hv
    simp [hv, hjn]
  · by_cases hjn : j < n
    · obtain ⟨v, hv, hr⟩ := hj j hjn
      rw [Go.WideShapes.add_plain] at hv
      simp only [hv, hjn, if_true, Option.getD_some]
      exact hr
    · have e : ps.getD j [] = [] := by rw [List.getD_eq_getElem?_getD, List.getElem?_eq_none (by omega)]; rfl
      rw [e]
      simp only [hjn, if_false]
      exact ⟨none, 0, rfl, Nat.le_refl _, ⟨rfl, Nat.zero_le _, fun h => absurd h (Nat.lt_irrefl 0)⟩⟩
set_option maxHeartbeats 1000000 in
/-- The closure that Check hands to slices.ContainsFunc. -/
theorem same_calls (W : World) (bx : Nat) (A1 A2 : Option Addr) (c1 c2 : Nat) (p q : Wd) (h0 : W.cell? ⟨bx, 0, none⟩ = some (.slice A1 p.length c1)) (h1 : (Kd.int .u8).C W A1 p.length p) (h2 : (Kd.int .u8).C W A2 q.length q) (b1 : ∀ b ∈ p, 0 ≤ b ∧ b ≤ 255) (b2 : ∀ b ∈ q, 0 ≤ b ∧ b ≤ 255) :
    Calls Try.prog 52 #[.slice A2 q.length c2, .pointer (some ⟨bx, 0, none⟩)] W fun e w' => e = .returned (.bool (p == q)) ∧ ∃ q', w' = W.drewN q' := by
  have hcon := Try.bytes_Equal_all A1 A2 p.length c1 q.length c2 p q W rfl rfl (bytesIn_of_C h1) (bytesIn_of_C h2)
  rw [bytesOf_inj b1 b2] at hcon
  have HC := Lib.hid hcon
  clear hcon h1 h2 b1 b2
  go_enter Try.func52, Try.ntmps52
  go_wp2_with fail
  refine HC.out.mono ?_
  rintro e w' ⟨rfl, rfl⟩
  go_wp2
  go_ret
  exact ⟨rfl, 0, rfl⟩
theorem chk_pred {w : World} {bx : Nat} {A1 : Option Addr} {c1 : Nat} {p : Wd} {ps : List Wd} {vs : Nat → Value} (h0 : w.cell? ⟨bx, 0, none⟩ = some (.slice A1 p.length c1)) (h1 : (Kd.int .u8).C w A1 p.length p) (b1 : ∀ b ∈ p, 0 ≤ b ∧ b ≤ 255)
    (hv : ∀ j, ∃ Aj cj, vs j = .slice Aj (ps.getD j []).length cj ∧ (ps.getD j []).length ≤ cj ∧ (Kd.int .u8).C w Aj (ps.getD j []).length (ps.getD j [])) (b2 : BytesOk ps) : PredAt Try.prog 52 #[.pointer (some ⟨bx, 0, none⟩)] vs (fun j => p == ps.getD j []) w := by
  intro W j hb
  obtain ⟨Aj, cj, e, _, hC⟩ := hv j
  unfold FnGives
  rw [e]
  have b3 : ∀ b ∈ ps.getD j [], 0 ≤ b ∧ b ≤ 255 := by
    rw [List.getD_eq_getElem?_getD]
    rcases Nat.lt_or_ge j ps.length with hj | hj
    · rw [List.getElem?_eq_getElem hj]; exact b2 _ (List.getElem_mem hj)
    · rw [List.getElem?_eq_none hj]; intro b hb; cases hb
  exact same_calls W bx A1 Aj c1 cj p _ ((hb.cell (World.block_lt_of_cell? _ _ h0)).trans h0) (Kd.C_below h1 hb) (Kd.C_below hC hb) b1 b3
theorem any_take {ps : List Wd} {p : Wd} {k : Nat} (hk : k ≤ ps.length) : ((List.range k).any fun j => p == ps.getD j []) = decide (p ∈ ps.take k) := by
  rw [Bool.eq_iff_iff, List.any_eq_true, decide_eq_true_iff]
  constructor
  · rintro ⟨j, hj, e⟩
    have hj := List.mem_range.1 hj
    have e : p = ps.getD j [] := by simpa using e
    rw [e, List.getD_eq_getElem?_getD, List.getElem?_eq_getElem (by omega), Option.getD_some]
    rw [List.mem_take_iff_getElem]
    exact ⟨j, by omega, rfl⟩
  · intro h
    rw [List.mem_take_iff_getElem] at h
    obtain ⟨j, hj, e⟩ := h
    refine ⟨j, List.mem_range.2 (by omega), ?_⟩
    rw [List.getD_eq_getElem?_getD, List.getElem?_eq_getElem (by omega), Option.getD_some, e]
    simp
theorem chk_step {ps : List Wd} {k : Nat} (hk : k < ps.length) : chkL (ps.take k) (ps.drop k) = if ps.getD k [] = [] then 61 else if 32 < (ps.getD k []).length then 62 else if ps.getD k [] ∈ ps.take k then 63 else chkL (ps.take (k + 1)) (ps.drop (k + 1)) := by
  have e : ps.getD k [] = ps[k] := by rw [List.getD_eq_getElem?_getD, List.getElem?_eq_getElem hk]; rfl
  rw [List.drop_eq_getElem_cons hk, chkL, e, List.take_succ_eq_append_getElem hk]
set_option maxHeartbeats 4000000 in
set_option maxRecDepth 1000000 in
theorem check_calls (w : World) (A : Option Addr) (n c : Nat) (ps : List Wd) (h : (Kd.slice 5 (Kd.int .u8)).C w A n ps) (hnc : n ≤ c) (hby : BytesOk ps) :
    Calls Try.prog 19 #[.slice A n c] w fun e w' => e = .returned (.int .i64 (chkW ps)) ∧ Below w.heap.size w w' := by
  have hl : ps.length = n := h.1
  have hbig : n ≤ 9223372036854775807 := h.2.1
  by_cases hbad : n = 0 ∨ 64 < n
  · have hW : chkW ps = 60 := by unfold chkW; rw [hl, if_pos hbad]
    rw [hW]
    clear hW hl h
    go_enter Try.func19, Try.ntmps19
    by_cases h0 : n = 0
    · subst h0
      go_wp2
      go_ret
      exact ⟨rfl, Below.refl _ _⟩
    · have h1 : (64 : Int) < (n : Int) := by omega
      have h2 : ((n : Int) == 0) = false := by simp; omega
      go_wp2
      go_ret
      exact ⟨rfl, Below.refl _ _⟩
  · have hn : 0 < n := by omega
    have hW : chkW ps = chkL [] ps := by unfold chkW; rw [hl, if_neg hbad]
    rw [hW]
    obtain ⟨b, off, vs, rfl, hcell, hv⟩ := vals_of_C h hn
    have HC := Lib.hid hcell
    have HV := Lib.hid hv
    have HBY := Lib.hid hby
    have HL := Lib.hid hl
    have hle : n ≤ 64 := by omega
    clear hcell hv hby hl h hW
    have h1 : ¬ ((64 : Int) < (n : Int)) := by omega
    have h2 : ((n : Int) == 0) = false := by simp; omega
    go_enter Try.func19, Try.ntmps19
    go_wp2
    go_loopg [15] n (fun g1 vk wr => ∃ (k : Nat), vk = .int .i64 k ∧ k ≤ n ∧ n - k ≤ g1 ∧ Hid (Below w.heap.size w wr) ∧ Hid (chkL (ps.take k) (ps.drop k) = chkL [] ps))
    case atStart => exact ⟨0, rfl, Nat.zero_le _, Nat.le_refl _, Below.refl _ _, rfl⟩
    case round =>
      obtain ⟨k, rfl, hk, hg1, HB, HR⟩ := hrel
      by_cases hlt : k < n
      · have hkz : (k : Int) < (n : Int) := by omega
        have hst := chk_step (ps := ps) (k := k) (by rw [HL.out]; exact hlt)
        rw [HR.out] at hst
        have HST := Lib.hid hst
        clear hst HR
        obtain ⟨Ak, ck, hvk, hck, hCk⟩ := HV.out k
        obtain ⟨p, hp⟩ : ∃ p, ps.getD k [] = p := ⟨_, rfl⟩
        rw [hp] at hvk hck hCk HST
        have hbp : ∀ b ∈ p, 0 ≤ b ∧ b ≤ 255 := by
          rw [← hp, List.getD_eq_getElem?_getD, List.getElem?_eq_getElem (by rw [HL.out]; exact hlt), Option.getD_some]
          exact HBY.out _ (List.getElem_mem _)
        have HBP := Lib.hid hbp
        have hcell : wr.cell? ⟨b, off + k, none⟩ = some (.slice Ak p.length ck) := (HB.out.cell (World.block_lt_of_cell? _ _ (HC.out k hlt))).trans (by rw [HC.out k hlt, hvk])
        have HCK := Lib.hid hCk
        have HP := Lib.hid hp
        clear hvk hCk hp hbp
        have hA : Hid (Below w.heap.size w (wr.alloc (.cells #[.slice Ak p.length ck] 32))) := HB.out.alloc HB.out.size _
        by_cases p0 : p.length = 0
        · have e0 : ((p.length : Int) == 0) = true := by rw [p0]; rfl
          have hE : Hid (chkL [] ps = 61) := by rw [Hid, HST.out, if_pos (List.eq_nil_of_length_eq_zero p0)]
          clear p0
          go_wp2
          go_ret
          exact ⟨by rw [hE.out]; rfl, hA.out⟩
        · have e0 : ((p.length : Int) == 0) = false := by rw [beq_eq_false_iff_ne]; omega
          have hne : p ≠ [] := fun e => p0 (by rw [e]; rfl)
          have HST2 := HST.out
          rw [if_neg hne] at HST2
          clear p0 hne HST
          by_cases p1 : 32 < p.length
          · have e1 : (32 : Int) < (p.length : Int) := by omega
            rw [if_pos p1] at HST2
            have hE := Lib.hid HST2
            clear HST2 p1
            go_wp2
            go_ret
            exact ⟨by rw [hE.out]; rfl, hA.out⟩
          · have e1 : ¬ ((32 : Int) < (p.length : Int)) := by omega
            rw [if_neg p1] at HST2
            have HST3 := Lib.hid HST2
            clear HST2 p1
            have hb2 := (Below.refl wr.heap.size wr).alloc (Nat.le_refl _) (.cells #[.slice Ak p.length ck] 32)
            have hpred := chk_pred (w := wr.alloc (.cells #[.slice Ak p.length ck] 32)) (bx := wr.heap.size) (A1 := Ak) (c1 := ck) (p := p) (ps := ps) (vs := vs) (by rw [cell_of_row _ _ _ _ _ _ (heap_alloc_new wr _)]; rfl) (Kd.C_below (Kd.C_below HCK.out HB.out) hb2) HBP.out (fun j => by
              obtain ⟨Aj, cj, q1, q2, q3⟩ := HV.out j
              exact ⟨Aj, cj, q1, q2, Kd.C_below (Kd.C_below q3 HB.out) hb2⟩) HBY.out
            have hcon := Try.slices_ContainsFunc (α := Nat) vs (fun j => p == ps.getD j []) 52 #[.pointer (some ⟨wr.heap.size, 0, none⟩)] (enters_of Try.func52 (by kernel_rfl) rfl) b off k c (List.range n) (wr.alloc (.cells #[.slice Ak p.length ck] 32)) hpred (by rw [List.length_range]; exact hk) (by omega) (fun j hj => by
              rw [List.length_range] at hj
              have hcj := HC.out j hj
              have hlj := World.block_lt_of_cell? _ _ hcj
              rw [hb2.cell (by have := HB.out.size; show b < wr.heap.size; exact Nat.lt_of_lt_of_le hlj this), HB.out.cell hlj, hcj]
              congr 1
              rw [getElem!_pos _ j (by rw [List.length_range]; exact hj), List.getElem_range])
            rw [List.take_range, Nat.min_eq_left hk, any_take (by rw [HL.out]; exact hk)] at hcon
            have HCON := Lib.hid hcon
            clear hcon hpred hb2
            go_wp2_with fail
            refine HCON.out.mono ?_
            rintro e w' ⟨rfl, q, rfl⟩
            have HA2 : Hid (Below w.heap.size w ((wr.alloc (.cells #[.slice Ak p.length ck] 32)).drewN q)) := below_drewN' hA.out q
            by_cases hin : p ∈ ps.take k
            · have HST4 := HST3.out
              rw [if_pos hin] at HST4
              have hE := Lib.hid HST4
              rw [decide_eq_true hin]
              clear HST4 hin
              go_wp2
              go_ret
              exact ⟨by rw [hE.out]; rfl, HA2.out⟩
            · have HST4 := HST3.out
              rw [if_neg hin] at HST4
              have hE := Lib.hid HST4
              rw [decide_eq_false hin]
              clear HST4 hin
              go_wp2
              go_roundg (n - (k + 1))
              case measure => omega
              case rel => exact ⟨k + 1, by go_num, by omega, Nat.le_refl _, HA2, hE.out.symm⟩
      · obtain rfl : k = n := by omega
        have hR := HR.out
        rw [← HL.out, List.drop_length, chkL] at hR
        have hE := Lib.hid hR
        clear hR HR
        go_wp2
        go_ret
        exact ⟨by rw [← hE.out]; rfl, HB.out⟩
end Go.Proofs.Ytdciniefkodeaaa.PAll
