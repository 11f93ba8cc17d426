/- The reference's Word, Fail, Next, Out. -/
import Derived.Test.YtdciniefkodeaaaQPl7HRefW
set_option linter.unusedVariables false
set_option linter.unusedSimpArgs false
namespace Go.Proofs.Ytdciniefkodeaaa.PAll
open Go.Sort Go.RowKit Go.Proofs.YtdciniefkodeaaaW.PrintWords Go.Proofs.YtdciniefkodeaaaW.PrintLast Go.Proofs.YtdciniefkodeaaaW.PrintMore
def nextR (T : List Wd) (s b : Int) : Int := if isT T s = true then ((nxT T s.toNat b : Nat) : Int) else 0
def outR (ps T : List Wd) (s : Int) : List Int := if isT T s = true then outsW ps (T.getD s.toNat []) else []
theorem cell_below {w W : World} {a : Addr} {u : Value} (hb : Below w.heap.size w W) (h : w.cell? a = some u) : W.cell? a = some u := (hb.cell (World.block_lt_of_cell? _ _ h)).trans h
theorem isT_nat {T : List Wd} {s : Int} (h : isT T s = true) : ∃ n : Nat, s = (n : Int) ∧ n < T.length := by
  unfold isT at h
  have h := of_decide_eq_true h
  exact ⟨s.toNat, by omega, by omega⟩
/-- The word of a state, with its cells' addresses. -/
theorem RefAt.word {w0 w : World} {g : Nat} {A : Option Addr} {c : Nat} {ps T : List Wd} (h : RefAt w0 w g A c ps T) {s : Nat} (hs : s < T.length) :
    ∃ gW cW A' c', w.cell? ⟨g, 0, none⟩ = some (.slice A ps.length c) ∧ w.cell? ⟨g, 1, none⟩ = some (.slice (some ⟨gW, 0, none⟩) T.length cW) ∧ w.cell? ⟨gW, s, none⟩ = some (.slice A' (T.getD s []).length c') ∧ (T.getD s []).length ≤ c' ∧ (Kd.int .u8).C w A' (T.getD s []).length (T.getD s []) := by
  obtain ⟨vW, vK, wv, kv, K, h1, h2, h3, h4⟩ := h
  obtain ⟨c0, cw, _, _⟩ := h1.cells
  obtain ⟨gW, cW, A', c', rfl, q1, q2, q3⟩ := h1.wordAt hs
  exact ⟨gW, cW, A', c', c0, cw, q1, q2, q3⟩
set_option maxHeartbeats 2000000 in
set_option maxRecDepth 1000000 in
theorem refNext_calls {w0 : World} (w : World) {g : Nat} {A : Option Addr} {c : Nat} {ps T : List Wd} (h : RefAt w0 w g A c ps T) (hw32 : ∀ x ∈ T, x.length ≤ 32) (s b : Int) :
    Calls Try.prog 41 #[.pointer (some ⟨g, 0, none⟩), .int .i64 s, .int .u8 b] w fun e w' => e = .returned (.int .i64 (nextR T s b)) ∧ Below w.heap.size w w' := by
  have H := Lib.hid h
  have KI := Lib.hid (refIs_calls w h s)
  have H32 := Lib.hid hw32
  clear h hw32
  by_cases hi : isT T s = true
  · obtain ⟨n, rfl, hn⟩ := isT_nat hi
    have hf : nextR T (n : Int) b = ((nxT T n b : Nat) : Int) := by unfold nextR; rw [if_pos hi, Int.toNat_natCast]
    rw [hf, next_long]
    rw [hi] at KI
    have hnz : (n : Int) < (T.length : Int) := by omega
    have hxl := H32.out _ (get_mem hn)
    obtain ⟨x, hx⟩ : ∃ x, T.getD n [] = x := ⟨_, rfl⟩
    rw [hx] at hxl ⊢
    have HXX := Lib.hid hx
    clear hf hi hx
    go_enter Try.func41, Try.ntmps41
    go_wp2_with fail
    refine KI.out.mono ?_
    rintro e w1 ⟨rfl, q, hq⟩
    have B1 : Hid (Below w.heap.size w w1) := by rw [hq]; exact below_drewN' (Below.refl _ _) q
    have H1 : Hid (RefAt w0 w1 g A c ps T) := by rw [hq]; exact H.out.drewN q
    have HB0 : Hid (Below w1.heap.size w1 (w1.alloc (.cells #[] 5))) := (Below.refl _ _).alloc (Nat.le_refl _) _
    have HO0 : Hid ((w1.alloc (.cells #[] 5)).ownsRow w1.heap.size 5 1 (.slice (some ⟨w1.heap.size, 0, none⟩) 0 0) ([] : Wd).length (nums .u8 [])) := World.ownsRow_lit (base := w1.heap.size) (e := 5) (size := 1) w1 #[] 0 (Nat.le_refl _) (by decide) rfl
    obtain ⟨gW, cW, A', c', _, q1, q2, q3, q4⟩ := H1.out.word hn
    rw [HXX.out] at q2 q3 q4
    have p1 := cell_below HB0.out q1
    have p2 := cell_below HB0.out q2
    have HC4 := Lib.hid (Kd.C_below q4 HB0.out)
    have hn1 : ([] : Wd).length + x.length ≤ 140737488355328 := by simp; omega
    have hn2 : x.length + 1 ≤ 140737488355328 := by omega
    have HN1 := Lib.hid hn1
    have HN2 := Lib.hid hn2
    clear hq q4 q3 KI hn1 hn2 q1 q2
    go_wp2_with (first
      | ((with_reducible refine gate_builtin (b := .append) (xs := #[.tmp 12, .tmp 19]) rfl ?_); at_builtin; refine print_append_row w1.heap.size rfl (.tmp 12) (.tmp 19) 32 5 .u8 1 rfl Try.underlying32 info5 (by decide) (.slice (some ⟨w1.heap.size, 0, none⟩) 0 0) [] x A' x.length c' rfl rfl HO0.out (Kd.reads_of_C HC4.out) HB0.out (by simp) (by rw [Nat.mul_one]; exact HN1.out) ?_; intro v1 w2 hown hB hg _hat; have ho1 : w2.ownsRow w1.heap.size 5 1 v1 x.length (nums .u8 x) := hown; obtain ⟨Av, cv, hv⟩ := own_slice ho1; subst hv; have HO1 := Lib.hid ho1; have HB1 := Lib.hid hB; clear hown ho1 hB hg _hat HO0 HB0)
      | ((with_reducible refine gate_builtin (b := .append) (xs := #[.tmp 20, .tmp 22]) rfl ?_); at_builtin; refine print_append_num w1.heap.size rfl (.tmp 20) (.tmp 22) 32 5 .u8 1 rfl Try.underlying32 info5 (by decide) (.slice Av x.length cv) x b rfl rfl HO1.out HB1.out HB1.out.size (by rw [Nat.mul_one]; exact HN2.out) ?_; intro v2 w3 hown hB hg _hat; have HO2 := Lib.hid hown; obtain ⟨Av2, cv2, hv⟩ := own_slice hown; subst hv; have HB2 := Lib.hid hB; clear hown hB hg _hat HO1 HB1))
    obtain ⟨Av3, cv3, hv3, hcv3, hCv3⟩ := own_bytes_reads HO2.out
    injection hv3 with e1 e2 e3
    subst e1
    subst e3
    have KL := longest_ctr w3 (H1.out.next HB2.out) (k0 := 0) rfl hCv3 hcv3 (Nat.zero_le _)
    have hl : (x ++ [b]).length = x.length + 1 := by rw [List.length_append]; rfl
    rw [hl] at KL
    have HKL := Lib.hid KL
    clear hCv3 hcv3 KL e2 hl
    refine HKL.out.mono ?_
    rintro e w4 ⟨rfl, q2', hq2⟩
    have HQ2 := Lib.hid hq2
    clear hq2
    go_wp2
    go_ret
    refine ⟨rfl, ?_⟩
    have h3 : Below w.heap.size w w3 := B1.out.trans (HB2.out.mono B1.out.size)
    rw [HQ2.out]
    exact below_drewN' h3 q2'
  · have hi' : isT T s = false := by simpa using hi
    have hf : nextR T s b = 0 := by unfold nextR; rw [if_neg hi]
    rw [hf]
    rw [hi'] at KI
    clear hf hi hi'
    go_enter Try.func41, Try.ntmps41
    go_wp2_with fail
    refine KI.out.mono ?_
    rintro e w1 ⟨rfl, q, hq⟩
    have HQ := Lib.hid hq
    clear hq KI
    go_wp2
    go_ret
    exact ⟨rfl, by rw [HQ.out]; exact below_drewN' (Below.refl _ _) q⟩
/-- The patterns ahead of k that this word ends with. -/
def outsTo (ps : List Wd) (x : Wd) (k : Nat) : List Int := ((List.range k).filter fun i => decide (ps.getD i [] <:+ x)).map fun i : Nat => (i : Int)
theorem outsTo_all (ps : List Wd) (x : Wd) : outsTo ps x ps.length = outsW ps x := rfl
theorem outsTo_succ (ps : List Wd) (x : Wd) (k : Nat) : outsTo ps x (k + 1) = if ps.getD k [] <:+ x then outsTo ps x k ++ [(k : Int)] else outsTo ps x k := by
  unfold outsTo
  rw [List.range_succ, List.filter_append, List.map_append]
  by_cases h : ps.getD k [] <:+ x
  · rw [if_pos h, List.filter_cons, if_pos (decide_eq_true h)]; rfl
  · rw [if_neg h, List.filter_cons, if_neg (ndec h), List.filter_nil, List.map_nil, List.append_nil]
theorem outsTo_len (ps : List Wd) (x : Wd) (k : Nat) : (outsTo ps x k).length ≤ k := by
  unfold outsTo
  rw [List.length_map]
  exact Nat.le_trans (List.length_filter_le _ _) (by rw [List.length_range]; exact Nat.le_refl _)
set_option maxHeartbeats 2000000 in
set_option maxRecDepth 1000000 in
theorem refOut_calls {w0 : World} (w : World) {g : Nat} {A : Option Addr} {c : Nat} {ps T : List Wd} (h : RefAt w0 w g A c ps T) (hp : PsAt w A c ps) (hpl : ps.length ≤ 64) (s : Int) :
    Calls Try.prog 39 #[.pointer (some ⟨g, 0, none⟩), .int .i64 s] w fun e w' => ∃ v, e = .returned v ∧ OwnI w' w.heap.size v (outR ps T s) ∧ Below w.heap.size w w' := by
  have H := Lib.hid h
  have HP := Lib.hid hp
  have KI := Lib.hid (refIs_calls w h s)
  clear h hp
  by_cases hi : isT T s = true
  · obtain ⟨n, rfl, hn⟩ := isT_nat hi
    have hw : outR ps T (n : Int) = outsW ps (T.getD n []) := by unfold outR; rw [if_pos hi, Int.toNat_natCast]
    rw [hw]
    rw [hi] at KI
    have hnz : (n : Int) < (T.length : Int) := by omega
    obtain ⟨x, hx⟩ : ∃ x, T.getD n [] = x := ⟨_, rfl⟩
    rw [hx]
    have HXX := Lib.hid hx
    clear hw hi hx
    go_enter Try.func39, Try.ntmps39
    go_wp2_with fail
    refine KI.out.mono ?_
    rintro e w1 ⟨rfl, q, hq⟩
    have B1 : Hid (Below w.heap.size w w1) := by rw [hq]; exact below_drewN' (Below.refl _ _) q
    have HO0 : Hid (w1.ownsRow w.heap.size 3 1 (.slice none 0 0) (outsTo ps x 0).length (nums .i64 (outsTo ps x 0))) := ⟨rfl, .inl ⟨rfl, rfl⟩⟩
    clear hq KI
    go_wp2
    go_loopg [5, 6] ps.length (fun g1 vo vk wr => ∃ k : Nat, vk = .int .i64 (k : Int) ∧ k ≤ ps.length ∧ ps.length - k ≤ g1 ∧ Hid (wr.ownsRow w.heap.size 3 1 vo (outsTo ps x k).length (nums .i64 (outsTo ps x k))) ∧ Hid (Below w.heap.size w wr))
    case atStart => exact ⟨0, rfl, Nat.zero_le _, Nat.le_refl _, HO0, B1⟩
    case round =>
      clear HO0 B1
      obtain ⟨k, rfl, hk, hg1, HO, HB⟩ := hrel
      obtain ⟨Av, cv, hv⟩ := own_slice HO.out
      subst hv
      obtain ⟨gW, cW, A', c', q0, q1, q2, q3, q4⟩ := (H.out.next HB.out).word hn
      rw [HXX.out] at q2 q3 q4
      by_cases hkl : k < ps.length
      · have hkz : (k : Int) < (ps.length : Int) := by omega
        obtain ⟨ad, Ak, ck, rfl, hrow, hck, hCk⟩ := ps_row (HP.out.below HB.out) hkl
        have hks := outsTo_succ ps x k
        obtain ⟨pk, hpk⟩ : ∃ pk, ps.getD k [] = pk := ⟨_, rfl⟩
        rw [hpk] at hrow hck hCk hks
        have KE := fun q' => ends_ctr (w := wr.drewN q') (n := x.length) (m := pk.length) (x := x) (y := pk) (c := c') (d := ck) rfl rfl (Kd.C_below q4 (below_drewN' (Below.refl _ _) q')) q3 (Kd.C_below hCk (below_drewN' (Below.refl _ _) q')) hck
        have hwk : IntKind.i64.wrap ((k : Int) + 1) = (k : Int) + 1 := by rw [IntKind.wrap_i64]; omega
        have hol := outsTo_len ps x k
        obtain ⟨os, hos⟩ : ∃ os, outsTo ps x k = os := ⟨_, rfl⟩
        rw [hos] at HO hks hol ⊢
        have HKS := Lib.hid hks
        have HKE := Lib.hid KE
        clear hks KE hCk hpk hos q4 q3
        by_cases hE : pk <:+ x
        · have hd : decide (pk <:+ x) = true := decide_eq_true hE
          have hnext := HKS.out
          rw [if_pos hE] at hnext
          have HN := Lib.hid hnext
          have KE := HKE.out
          simp only [hd] at KE
          have HKE2 := Lib.hid KE
          have hl8 : (os.length + 1) * 8 ≤ 140737488355328 := by omega
          have HL8 := Lib.hid hl8
          clear KE HKE hd hnext hE HKS hl8
          go_wp2_with fail
          go_quiet (refine Calls.quiet_of (HKE2.out _))
          have HW : Hid ((wr.drewN nq).ownsRow w.heap.size 3 1 (.slice Av os.length cv) os.length (nums .i64 os)) := HO.out
          have HBW := Lib.hid (below_drewN' HB.out nq)
          generalize wr.drewN nq = wq at HW HBW ⊢
          have HOL : Hid ((os ++ [(k : Int)]).length = os.length + 1) := List.length_append
          go_wp2_with (at_builtin; refine print_append_num w.heap.size rfl (.tmp 35) (.tmp 37) 34 3 .i64 8 rfl Try.underlying34 info3 (by decide) (.slice Av os.length cv) os (k : Int) rfl rfl HW.out HBW.out HBW.out.size HL8.out ?_; intro v1 w2 hown hB hg _hat; obtain ⟨Av2, cv2, hv⟩ := own_slice hown; subst hv; rw [HOL.out] at hown ⊢; have HO1 := Lib.hid hown; have HB1 := Lib.hid hB; clear hown hB hg _hat HW HBW)
          go_roundg (ps.length - (k + 1))
          case measure => omega
          case rel => exact ⟨k + 1, by go_num, by omega, Nat.le_refl _, by rw [Hid, HN.out, HOL.out]; exact HO1, HB1⟩
        · have hd : decide (pk <:+ x) = false := decide_eq_false hE
          have hnext := HKS.out
          rw [if_neg hE] at hnext
          have HN := Lib.hid hnext
          have KE := HKE.out
          simp only [hd] at KE
          have HKE2 := Lib.hid KE
          clear KE HKE hd hnext hE HKS
          go_wp2_with fail
          go_quiet (refine Calls.quiet_of (HKE2.out _))
          go_wp2
          go_roundg (ps.length - (k + 1))
          case measure => omega
          case rel => exact ⟨k + 1, by go_num, by omega, Nat.le_refl _, by rw [HN.out]; exact HO, below_drewN' HB.out nq⟩
      · obtain rfl : k = ps.length := by omega
        rw [outsTo_all] at HO ⊢
        go_wp2
        go_ret
        exact ⟨_, rfl, HO.out, HB.out⟩
  · have hi' : isT T s = false := by simpa using hi
    have hw : outR ps T s = [] := by unfold outR; rw [if_neg hi]
    rw [hw]
    rw [hi'] at KI
    clear hw hi hi'
    go_enter Try.func39, Try.ntmps39
    go_wp2_with fail
    refine KI.out.mono ?_
    rintro e w1 ⟨rfl, q, hq⟩
    have HQ := Lib.hid hq
    clear hq KI
    go_wp2
    go_ret
    exact ⟨_, rfl, ⟨rfl, .inl ⟨rfl, rfl⟩⟩, by rw [HQ.out]; exact below_drewN' (Below.refl _ _) q⟩
end Go.Proofs.Ytdciniefkodeaaa.PAll
