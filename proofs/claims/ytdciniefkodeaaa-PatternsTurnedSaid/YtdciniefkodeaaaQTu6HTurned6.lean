/- PatternsTurned, walked. -/
import Derived.Test.YtdciniefkodeaaaQTu6HTurnP
import Derived.Test.YtdciniefkodeaaaQTu6HRun6
import Derived.Test.YtdciniefkodeaaaQTu6HWords6
import Derived.Test.YtdciniefkodeaaaQTu6HLay
set_option linter.unusedVariables false
set_option linter.unusedSimpArgs false
namespace Go.Proofs.Ytdciniefkodeaaa.PAll
open Go.Sort Go.RowKit Go.Proofs.YtdciniefkodeaaaW.PrintWords Go.Proofs.YtdciniefkodeaaaW.PrintLast Go.Proofs.YtdciniefkodeaaaW.PrintMore
abbrev kB : Kd Wd := Kd.slice 5 (Kd.int .u8)
theorem cut_rows {A : Option Addr} {n c k : Nat} (h1 : k ≤ n) : ∀ W : World, (Instr.slice 22 (.slice A n c) (some (.int .i64 (k : Int))) none none).run Try.prog W = .ok (.slice (if c = k then A else A.map (·.add k)) (n - k) (c - k)) W := by
  intro W
  obtain ⟨i0, hi, hz0, hz1, hz2⟩ := info_parts info32
  have hel : Try.prog.elem 22 = 32 := by simp [Program.elem, Try.underlying22]
  have hu : Try.prog.underlying 22 = some (.slice (Try.prog.elem 22)) := by rw [hel]; exact Try.underlying22
  rw [run_slice_l W 22 A n c hu .i64 (k : Int) (by omega) (by omega), hel]
  simp [sizeOf, typeInfo, hi, hz1, sliced, Result.andThen]
theorem top_rows {A : Option Addr} {n c k : Nat} (h1 : k ≤ n) (h2 : n ≤ c) : ∀ W : World, (Instr.slice 22 (.slice A n c) none (some (.int .i64 (k : Int))) none).run Try.prog W = .ok (.slice A k c) W := by
  intro W
  obtain ⟨i0, hi, hz0, hz1, hz2⟩ := info_parts info32
  have hel : Try.prog.elem 22 = 32 := by simp [Program.elem, Try.underlying22]
  have hu : Try.prog.underlying 22 = some (.slice (Try.prog.elem 22)) := by rw [hel]; exact Try.underlying22
  have ha : (A.map fun x => x.add 0) = A := by cases A <;> simp [Addr.add]
  rw [run_slice_h W 22 A n c hu .i64 (k : Int) (by omega) (by omega), hel]
  simp [sizeOf, typeInfo, hi, hz1, sliced, Result.andThen, ha]
theorem PsAt.drop {w : World} {A : Option Addr} {c k : Nat} {ps : List Wd} (h : PsAt w A c ps) (hk : k ≤ ps.length) : PsAt w (if c = k then A else A.map (·.add k)) (c - k) (ps.drop k) := by
  have h1 := Kd.C_drop (c := c) h.reads hk h.cap
  rw [show (Kd.slice 5 (Kd.int .u8)).sz = 1 from rfl, Nat.mul_one] at h1
  have h2 := h.cap
  have h3 := h.size
  exact ⟨h1, by rw [List.length_drop]; omega, fun x hx => h.bytes x (List.mem_of_mem_drop hx), by rw [List.length_drop]; omega, fun p hp => h.each p (List.mem_of_mem_drop hp)⟩
theorem PsAt.take {w : World} {A : Option Addr} {c k : Nat} {ps : List Wd} (h : PsAt w A c ps) (hk : k ≤ ps.length) : PsAt w A c (ps.take k) := by
  have h1 := Kd.C_take (m := k) h.reads hk
  have h2 := h.cap
  have h3 := h.size
  exact ⟨h1, by rw [List.length_take]; omega, fun x hx => h.bytes x (List.mem_of_mem_take hx), by rw [List.length_take]; omega, fun p hp => h.each p (List.mem_of_mem_take hp)⟩
/-- Copy, with its result as one's own. -/
theorem copyS_ctr {w : World} {A : Option Addr} {c n : Nat} {ps : List Wd} (h : PsAt w A c ps) (hn : n = ps.length) : Calls Try.prog 18 #[.slice A n c] w fun e w' => ∃ A' c', e = .returned (.slice A' n c') ∧ Kd.S kB 32 w' w.heap.size (fun _ => True) (.slice A' n c') ps ∧ PsAt w' A' c' ps ∧ Below w.heap.size w w' := by
  subst hn
  refine (winkleref06_Copy.calls (ps.length + 1) A c ps ps w h.reads h.cap (copy_is ps h.size h.each _ (Nat.lt_succ_self _))).mono ?_
  rintro e w' ⟨v, rfl, hS, hB⟩
  obtain ⟨A', c', rfl, hc, hC⟩ := Kd.R_reads (Kd.S_R hS)
  exact ⟨A', c', rfl, hS, ⟨hC, hc, h.bytes, h.size, h.each⟩, hB⟩
/-- append of the second copy to the first. -/
theorem step_rows {ops : Array Oper} {o : Oper} {a : Act} {Kc : Act → World → Prop} {Q : Exit → Act → World → Prop} {E : Prop} {w1 w2 W : World} (hgd : o.guard = none) (s x : Operand)
    (ho : o.op = .call { callee := .builtin .append, args := #[s, x], argTypes := #[22, 22] }) {A2 A3 : Option Addr} {c2 c3 n m : Nat} {xs ys : List Wd}
    (h1 : a.eval s = .slice A2 n c2) (h2 : a.eval x = .slice A3 m c3) (hS2 : Kd.S kB 32 w2 w1.heap.size (fun _ => True) (.slice A2 n c2) xs) (hS3 : Kd.S kB 32 W w2.heap.size (fun _ => True) (.slice A3 m c3) ys)
    (hb2 : Below w1.heap.size w1 w2) (hb : Below w2.heap.size w2 W) (hl : (xs.length + m) * 24 ≤ 140737488355328) {L : Nat} (hL : (xs ++ ys).length = L)
    (h : ∀ Av cv w', kB.C w' Av L (xs ++ ys) → L ≤ cv → Below w1.heap.size w1 w' → Kc (a.put o.dst (.slice Av L cv)) w') :
    if Region.wanted o (yielded ops a.tmps) = true then Oper.wp Try.prog o a W Kc Q else E := by
  have hw : Region.wanted o (yielded ops a.tmps) = true := by simp [Region.wanted, hgd]
  have hb13 : Below w1.heap.size w1 W := hb2.trans (hb.mono hb2.size)
  have hne : ∀ k, w2.heap.size ≤ k → some k ≠ (Value.slice A2 n c2).ownBlock := fun k hk e => by
    obtain ⟨_, inner, hown, _⟩ := Kd.S_R hS2
    have := own_lt hown k e.symm
    omega
  have key := Kd.N_append_rows_step (P := Try.prog) (ops := ops) (o := o) (a := a) (Kc := Kc) (Q := Q) kB (w0 := w1) (W := W) w1.heap.size hw s x 22 32 (.slice none 0 0) 24 ho Try.underlying22 info32 rfl (by decide) (by decide) (.slice A2 n c2) xs ys A3 m c3 (fun _ => True) (fun k => w2.heap.size ≤ k) h1 h2
    (Kd.N_below (Kd.S_N hS2) hb) (Kd.F_mono (Kd.S_F (Kd.S_bound hS3)) (fun k hk => hk.2.1)) (fun k hk => ⟨trivial, hne k hk⟩) (fun _ _ => trivial) hb13 hb13.size hl
    (fun v1 w' hN hB _ _ => by
      obtain ⟨Av, cv, rfl, hcv, hC⟩ := Kd.N_reads hN
      rw [hL] at hcv hC ⊢
      exact h Av cv w' hC hcv hB)
  rw [if_pos hw] at key ⊢
  exact key
/-- What Turned keeps: two machines and the text. -/
structure CtxU (w wr : World) (pa pb : Nat) (ps qs : List Wd) (A1 : Option Addr) (c1 : Nat) (x : Wd) : Prop where
  below : Below w.heap.size w wr
  ma : MachAt wr pa ps
  mb : MachAt wr pb qs
  text : TxAt wr A1 c1 x
theorem CtxU.next {w wr w1 : World} {pa pb : Nat} {ps qs : List Wd} {A1 : Option Addr} {c1 : Nat} {x : Wd} (h : CtxU w wr pa pb ps qs A1 c1 x) (hb : Below wr.heap.size wr w1) : CtxU w w1 pa pb ps qs A1 c1 x :=
  ⟨h.below.trans (hb.mono h.below.size), h.ma.below hb, h.mb.below hb, h.text.below hb⟩
theorem ints_cell {w : World} {A : Option Addr} {n : Nat} {xs : List Int} (h : (Kd.int .i64).C w A n xs) (hn : n = xs.length) {j : Nat} (hj : j < xs.length) : ∃ ad, A = some ad ∧ w.cell? (ad.add j) = some (.int .i64 (xs.getD j 0)) := by
  subst hn
  obtain ⟨ad, cs, e, _, hK, hc⟩ := Kd.C_get h (0 : Int) (j : Int) (by omega) (by omega)
  have := hc 0 _ (by rw [hK]; rfl)
  rw [Int.toNat_natCast, show j * (Kd.int IntKind.i64).sz + 0 = j from Nat.mul_one j] at this
  exact ⟨ad, e, this⟩
theorem mem_take_succ {xs : List Int} {m : Nat} (hm : m < xs.length) (r : Int) : r ∈ xs.take (m + 1) ↔ r ∈ xs.take m ∨ xs.getD m 0 = r := by
  rw [text_step hm, List.mem_append, List.mem_singleton, eq_comm]
set_option maxHeartbeats 4000000 in
set_option maxRecDepth 1000000 in
theorem turned_walk (A : Option Addr) (c : Nat) (ps : List Wd) (A1 : Option Addr) (c1 : Nat) (x : Wd) (by_ : Int) (w : World) (h : PsAt w A c ps) (hx : TxAt w A1 c1 x) (hby : 0 ≤ by_ ∧ by_ ≤ 255) : Calls Try.prog 6 #[.slice A ps.length c, .slice A1 x.length c1, .int .u8 by_] w fun e w' => e = .returned (.bool true) ∧ Below w.heap.size w w' := by
  have H := Lib.hid h
  have HX := Lib.hid hx
  have hcap := h.cap
  clear h hx
  by_cases hpe : ps.length = 0
  · have hpz : ((ps.length : Int) == 0) = true := by rw [beq_iff_eq]; omega
    go_enter Try.func6, Try.ntmps6
    go_wp2_with fail
    refine (awake6_calls _).mono ?_
    rintro e w6 ⟨rfl, hb⟩
    go_wp2
    go_ret
    exact ⟨rfl, hb⟩
  · have hpz : ((ps.length : Int) == 0) = false := by rw [beq_eq_false_iff_ne]; omega
    obtain ⟨hby0, hby1⟩ := hby
    have hwa : IntKind.i64.wrap by_ = by_ := by rw [IntKind.wrap_i64]; omega
    have hne0 : ¬ (ps.length : Int) = 0 := by omega
    obtain ⟨k, hk⟩ : ∃ k : Nat, by_ % (ps.length : Int) = (k : Int) := ⟨(by_ % (ps.length : Int)).toNat, by have h0 := Int.emod_nonneg by_ hne0; omega⟩
    have hkl : k < ps.length := by
      have h1 := Int.emod_lt_of_pos by_ (show (0 : Int) < (ps.length : Int) by omega)
      omega
    have HK := Lib.hid hk
    clear hk
    go_enter Try.func6, Try.ntmps6
    have hkn : k ≤ ps.length := by omega
    have hcut1 := cut_rows (A := A) (c := c) hkn
    have hcut2 := top_rows (A := A) (c := c) hkn hcap
    have HD := Lib.hid (H.out.below (below_drewN' (Below.refl w.heap.size w) 1))
    have K1 := Lib.hid (copyS_ctr (w := w.drew) (HD.out.drop hkn) List.length_drop.symm)
    have K2 : Hid (∀ w2, Below w.drew.heap.size w.drew w2 → Calls Try.prog 18 #[.slice A k c] w2 fun e w' => ∃ A' c', e = .returned (.slice A' k c') ∧ Kd.S kB 32 w' w2.heap.size (fun _ => True) (.slice A' k c') (ps.take k) ∧ PsAt w' A' c' (ps.take k) ∧ Below w2.heap.size w2 w') := fun w2 hb => copyS_ctr ((HD.out.below hb).take hkn) (by rw [List.length_take]; omega)
    have hsz : ((ps.drop k).length + k) * 24 ≤ 140737488355328 := by
      have := H.out.size
      rw [List.length_drop]
      omega
    have HSZ := Lib.hid hsz
    have HTL := Lib.hid (turn_len ps k)
    clear hsz hkn
    go_upto_region 4 with (fail)
    rw [HK.out]
    go_wp2_with fail
    refine start_ (n := 10) (S := (fun _ => True)) (ds := [8]) #[false, false, false, false, false, false, false, false, false, false] (by kernel_rfl) rfl rfl ?_ (fun hHeld => ?_)
    · exact trivial
    refine pure_ (i := 0) (N := some 30) (v := ?_) (a' := ?_) #[true, false, false, false, false, false, false, false, false, false] rfl rfl (by kernel_rfl) (fun _ _ _ h => h) (Or.inl ⟨by rfl, ?_⟩) ?_ ?_
    rotate_left
    · intro w'
      go_simp
      with_reducible rfl
    rotate_left
    · simp only [Act.put, List.setIfInBounds_toArray, List.set_cons_zero, List.set_cons_succ, i64_w, i32_w]
      rfl
    refine pure_ (i := 1) (N := some 31) (v := ?_) (a' := ?_) #[true, true, false, false, false, false, false, false, false, false] rfl rfl (by kernel_rfl) (fun _ _ _ h => h) (Or.inl ⟨by rfl, ?_⟩) ?_ ?_
    rotate_left
    · intro w'
      go_simp
      with_reducible rfl
    rotate_left
    · simp only [Act.put, List.setIfInBounds_toArray, List.set_cons_zero, List.set_cons_succ, i64_w, i32_w]
      rfl
    refine pure_ (i := 2) (N := some 32) (v := ?_) (a' := ?_) #[true, true, true, false, false, false, false, false, false, false] rfl rfl (by kernel_rfl) (fun _ _ _ h => h) (Or.inl ⟨by rfl, ?_⟩) ?_ ?_
    rotate_left
    · intro w'
      go_simp
      with_reducible rfl
    rotate_left
    · simp only [Act.put, List.setIfInBounds_toArray, List.set_cons_zero, List.set_cons_succ, i64_w, i32_w]
      rfl
    refine pure_ (i := 4) (N := some 34) (v := ?_) (a' := ?_) #[true, true, true, false, true, false, false, false, false, false] rfl rfl (by kernel_rfl) (fun _ _ _ h => h) (Or.inl ⟨by rfl, ?_⟩) ?_ ?_
    rotate_left
    · intro w'
      go_simp
      with_reducible rfl
    rotate_left
    · simp only [Act.put, List.setIfInBounds_toArray, List.set_cons_zero, List.set_cons_succ, i64_w, i32_w]
      rfl
    refine pure_ (i := 5) (N := some 35) (v := ?_) (a' := ?_) #[true, true, true, false, true, true, false, false, false, false] rfl rfl (by kernel_rfl) (fun _ _ _ h => h) (Or.inl ⟨by rfl, ?_⟩) ?_ ?_
    rotate_left
    · intro w'
      go_simp
      with_reducible rfl
    rotate_left
    · simp only [Act.put, List.setIfInBounds_toArray, List.set_cons_zero, List.set_cons_succ, i64_w, i32_w]
      rfl
    refine pure_ (i := 6) (N := some 36) (v := ?_) (a' := ?_) #[true, true, true, false, true, true, true, false, false, false] rfl rfl (by kernel_rfl) (fun _ _ _ h => h) (Or.inl ⟨by rfl, ?_⟩) ?_ ?_
    rotate_left
    · intro w'
      go_simp
      with_reducible rfl
    rotate_left
    · simp only [Act.put, List.setIfInBounds_toArray, List.set_cons_zero, List.set_cons_succ, i64_w, i32_w]
      rfl
    refine one_ (i := 3) (N := some 33) #[true, true, true, true, true, true, true, false, false, false] rfl rfl (by kernel_rfl) (by decide) (fun K hK => ?_)
    refine call_ 18 #[.slice (if c = k then A else A.map (·.add k)) (ps.length - k) (c - k)] (by rfl) rfl (by go_simp) ?_
    refine K1.out.mono ?_
    rintro e w2 ⟨A2, c2, rfl, hS2, hp2, hb2⟩
    refine ⟨_, rfl, ?_⟩
    refine hK.out _ _ trivial (fun hHeld => ?_)
    clear hK K
    refine norm_ (a' := ?_) ?_ ?_
    rotate_left
    · show Act.put _ (some 33) _ = _
      simp only [Act.put, List.setIfInBounds_toArray, List.set_cons_zero, List.set_cons_succ, i64_w, i32_w]
      rfl
    refine one_ (i := 7) (N := some 37) #[true, true, true, true, true, true, true, true, false, false] rfl rfl (by kernel_rfl) (by decide) (fun K hK => ?_)
    refine call_ 18 #[.slice A k c] (by rfl) rfl (by go_simp) ?_
    refine (K2.out w2 hb2).mono ?_
    rintro e w3 ⟨A3, c3, rfl, hS3, hp3, hb3⟩
    refine ⟨_, rfl, ?_⟩
    refine hK.out _ _ trivial (fun hHeld => ?_)
    clear hK K
    refine norm_ (a' := ?_) ?_ ?_
    rotate_left
    · show Act.put _ (some 37) _ = _
      simp only [Act.put, List.setIfInBounds_toArray, List.set_cons_zero, List.set_cons_succ, i64_w, i32_w]
      rfl
    refine last_ (i := 8) (N := some 38) #[true, true, true, true, true, true, true, true, true, false] rfl rfl (by kernel_rfl) (by decide) (fun K hK => ?_)
    refine step_rows (by rfl) (.tmp 33) (.tmp 37) (by rfl) (by rfl) (by rfl) hS2 hS3 hb2 hb3 HSZ.out HTL.out ?_
    rintro Av cv w4 hC4 hcap4 hb4
    refine hK.out _ _ ?_
    clear hK K
    refine norm_ (a' := ?_) ?_ ?_
    rotate_left
    · show Act.put _ (some 38) _ = _
      simp only [Act.put, List.setIfInBounds_toArray, List.set_cons_zero, List.set_cons_succ, i64_w, i32_w]
      rfl
    refine pure_ (i := 9) (N := some 8) (v := ?_) (a' := ?_) #[true, true, true, true, true, true, true, true, true, true] rfl rfl (by kernel_rfl) (fun _ _ _ h => h) (Or.inl ⟨by rfl, ?_⟩) ?_ ?_
    rotate_left
    · intro w'
      go_simp
      with_reducible rfl
    rotate_left
    · simp only [Act.put, List.setIfInBounds_toArray, List.set_cons_zero, List.set_cons_succ, i64_w, i32_w]
      rfl
    refine done_ (by kernel_rfl) ?_
    obtain ⟨qs, hqs⟩ : ∃ qs, turnW ps k = qs := ⟨_, rfl⟩
    have hql : qs.length = ps.length := by rw [← hqs]; exact turn_len ps k
    have hperm : ps.Perm qs := by rw [← hqs]; exact turn_perm ps k
    have hout : ∀ (X : Wd) (z : Int), z ∈ outsW qs X → ∃ j : Nat, z = (j : Int) ∧ j < ps.length ∧ (((j + k) % ps.length : Nat) : Int) ∈ outsW ps X := fun X z h => by
      rw [← hqs] at h
      exact outs_turn hkl h
    have holen : ∀ X, (outsW qs X).length = (outsW ps X).length := fun X => by rw [← hqs]; exact outs_turn_len ps k X
    have hw4 : Below w.heap.size w w4 := (below_drewN' (Below.refl _ _) 1).trans hb4
    have HQ4 : Hid (PsAt w4 Av cv qs) := by
      refine ⟨?_, by omega, fun x hx => H.out.bytes x (hperm.mem_iff.2 hx), by rw [hql]; exact H.out.size, fun p hp => H.out.each p (hperm.mem_iff.2 hp)⟩
      rw [hql, ← hqs]
      exact hC4
    have KC := Lib.hid (copy_ctr (H.out.below hw4))
    have HPM := Lib.hid hperm
    have HQL := Lib.hid hql
    have HO1 := Lib.hid hout
    have HO2 := Lib.hid holen
    have B4 := Lib.hid hw4
    clear hqs hql hperm hout holen hw4 hC4 hcap4 hb4 hS2 hp2 hb2 hS3 hp3 hb3 hHeld K1 K2 HD HSZ HTL hcut1 hcut2
    go_wp2_with fail
    refine KC.out.mono ?_
    rintro e w5 ⟨A5, c5, rfl, hp, hb⟩
    have B5 := Lib.hid (B4.out.trans (hb.mono B4.out.size))
    have HQ5 := Lib.hid (HQ4.out.below hb)
    have KB1 := Lib.hid (build_ctr hp)
    clear hp hb KC HQ4 B4
    go_wp2_with fail
    refine KB1.out.mono ?_
    rintro e w6 ⟨hb, hr⟩
    have B6 := Lib.hid (B5.out.trans (hb.mono B5.out.size))
    have KB2 := build_ctr (HQ5.out.below hb)
    rw [HQL.out] at KB2
    have HKB2 := Lib.hid KB2
    have HIFF := Lib.hid (chk_perm HPM.out)
    clear hb KB1 KB2 HQ5 B5
    rcases hr with ⟨hz1, rfl⟩ | ⟨hz1, pa, rfl, hm1⟩
    · obtain ⟨z1, hz1e⟩ : ∃ z, chkW ps = z := ⟨_, rfl⟩
      have hi := HIFF.out
      rw [hz1e] at hz1 hi ⊢
      have b1 : (z1 == 0) = false := by rw [beq_eq_false_iff_ne]; exact hz1
      have b2 : (z1 != 0) = true := by rw [bne_iff_ne]; exact hz1
      have HI := Lib.hid hi
      have HZ1 := Lib.hid hz1
      clear hz1e hi hz1
      go_wp2_with fail
      refine HKB2.out.mono ?_
      rintro e w7 ⟨hb, hr⟩
      have B7 := Lib.hid (B6.out.trans (hb.mono B6.out.size))
      clear hb HKB2 B6
      rcases hr with ⟨hz2, rfl⟩ | ⟨hz2, pb, rfl, hm2⟩
      · obtain ⟨z2, hz2e⟩ : ∃ z, chkW qs = z := ⟨_, rfl⟩
        rw [hz2e] at hz2 ⊢
        have b3 : (z2 == 0) = false := by rw [beq_eq_false_iff_ne]; exact hz2
        have b4 : (z2 != 0) = true := by rw [bne_iff_ne]; exact hz2
        clear hz2e hz2
        go_wp2_with fail
        refine (awake6_calls _).mono ?_
        rintro e w8 ⟨rfl, hb⟩
        have B8 := Lib.hid (B7.out.trans (hb.mono B7.out.size))
        clear hb
        go_wp2
        go_ret
        exact ⟨rfl, B8.out⟩
      · exact absurd (HI.out.2 hz2) HZ1.out
    · go_wp2_with fail
      refine HKB2.out.mono ?_
      rintro e w7 ⟨hb, hr⟩
      have B7 := Lib.hid (B6.out.trans (hb.mono B6.out.size))
      have HM1 := Lib.hid (hm1.below hb)
      clear hb HKB2 B6 hm1
      rcases hr with ⟨hz2, rfl⟩ | ⟨hz2, pb, rfl, hm2⟩
      · exact absurd (HIFF.out.1 hz1) hz2
      · have HC : Hid (CtxU w w7 pa pb ps qs A1 c1 x) := ⟨B7.out, HM1.out, hm2, HX.out.below B7.out⟩
        have HPN := Lib.hid (chkW_zero hz1).2.1
        clear hz1 hz2 hm2 B7 HM1 HIFF
        have KS1 := states_calls _ pa ps HC.out.ma
        obtain ⟨N, hN⟩ : ∃ N, (trie ps).length = N := ⟨_, rfl⟩
        have hN2 : (trie qs).length = N := by rw [← hN]; exact (trie_size HPM.out).symm
        obtain ⟨M, hM⟩ : ∃ M, longW ps = M := ⟨_, rfl⟩
        have hM2 : longW qs = M := by rw [← hM]; exact (long_perm HPM.out).symm
        rw [hN] at KS1
        have HN2 := Lib.hid hN2
        have HM := Lib.hid hM
        have HM2 := Lib.hid hM2
        have HKS1 := Lib.hid KS1
        clear KS1 hN hN2 hM hM2
        go_wp2_with fail
        refine HKS1.out.mono ?_
        rintro e w8 ⟨rfl, hd⟩
        have HC8 := Lib.hid (HC.out.next (below_of_drew hd))
        have KS2 := states_calls _ pb qs HC8.out.mb
        rw [HN2.out] at KS2
        have HKS2 := Lib.hid KS2
        clear hd HC KS2 HKS1
        go_wp2_with fail
        refine HKS2.out.mono ?_
        rintro e w9 ⟨rfl, hd⟩
        have HC9 := Lib.hid (HC8.out.next (below_of_drew hd))
        have KL1 := longest_calls _ pa ps HC9.out.ma
        rw [HM.out] at KL1
        have HKL1 := Lib.hid KL1
        clear hd HC8 KL1 HKS2
        go_wp2_with fail
        refine HKL1.out.mono ?_
        rintro e w10 ⟨rfl, hd⟩
        have HC10 := Lib.hid (HC9.out.next (below_of_drew hd))
        have KL2 := longest_calls _ pb qs HC10.out.mb
        rw [HM2.out] at KL2
        have HKL2 := Lib.hid KL2
        clear hd HC9 KL2 HKL1
        go_wp2_with fail
        refine HKL2.out.mono ?_
        rintro e w11 ⟨rfl, hd⟩
        have HC11 := Lib.hid (HC10.out.next (below_of_drew hd))
        clear hd HC10 HKL2
        have HXB := Lib.hid HX.out.bytes
        have HXS := Lib.hid HX.out.size
        clear HX HM HM2 HN2 H
        go_wp2
        go_loopg [13, 14, 15] x.length (fun g1 vx vy vi wr => ∃ i sx sy : Nat, vx = .int .i64 (sx : Int) ∧ vy = .int .i64 (sy : Int) ∧ vi = .int .i64 (i : Int) ∧ i ≤ x.length ∧ i ≤ 300 ∧ x.length - i ≤ g1 ∧ Hid (StAt ps sx (x.take i)) ∧ Hid (StAt qs sy (x.take i)) ∧ Hid (CtxU w wr pa pb ps qs A1 c1 x))
        case atStart => exact ⟨0, 0, 0, rfl, rfl, rfl, Nat.zero_le _, Nat.zero_le _, Nat.le_refl _, st_zero ps, st_zero qs, HC11⟩
        case round =>
          clear HC11
          obtain ⟨i, sx, sy, rfl, rfl, rfl, hi, hi3, hg1, HSX, HSY, HC⟩ := hrel
          by_cases hlt : i < x.length
          · by_cases hl3 : i < 300
            · have hiz : (i : Int) < (x.length : Int) := by omega
              have hi3z : (i : Int) < 300 := by omega
              obtain ⟨ad, rfl, hcell⟩ := tx_byte HC.out.text hlt
              obtain ⟨b, hb⟩ : ∃ b, x.getD i 0 = b := ⟨_, rfl⟩
              have hbb := text_byte HXB.out hlt
              have hnx := st_next HSX.out b
              have hny := st_next HSY.out b
              have hts := text_step hlt
              rw [hb] at hcell hbb hts
              rw [← hts] at hnx hny
              have KX := fun q' => next_calls (wr.drewN q') pa ps (sx : Int) b (HC.out.ma.below (below_drewN' (Below.refl _ _) q')) hbb
              have KY := fun q' => next_calls (wr.drewN q') pb qs (sy : Int) b (HC.out.mb.below (below_drewN' (Below.refl _ _) q')) hbb
              simp only [hnx.1] at KX
              simp only [hny.1] at KY
              obtain ⟨sx2, hsx2⟩ : ∃ s2, nxT (trie ps) sx b = s2 := ⟨_, rfl⟩
              obtain ⟨sy2, hsy2⟩ : ∃ s2, nxT (trie qs) sy b = s2 := ⟨_, rfl⟩
              simp only [hsx2] at KX hnx
              simp only [hsy2] at KY hny
              have HKX := Lib.hid KX
              have HKY := Lib.hid KY
              obtain ⟨X, hX⟩ : ∃ X, x.take (i + 1) = X := ⟨_, rfl⟩
              have hx2 := hnx.2
              have hy2 := hny.2
              rw [hX] at hx2 hy2
              have HSX2 := Lib.hid hx2
              have HSY2 := Lib.hid hy2
              have HXX := Lib.hid hX
              clear hb hbb hnx hny hts hsx2 hsy2 HSX HSY KX KY hX hx2 hy2
              go_wp2_with fail
              go_quiet (with_reducible first | refine Calls.quiet_of (HKX.out _) | refine Calls.quiet_of (HKY.out _))
              have HC1 := Lib.hid (HC.out.next (below_drewN' (Below.refl _ _) nq))
              generalize wr.drewN nq = wq at HC1 ⊢
              clear HC HKX HKY hcell
              have KO1 := out_calls wq pa ps (sx2 : Int) HC1.out.ma
              rw [st_out HSX2.out] at KO1
              have HKO1 := Lib.hid KO1
              clear KO1
              go_wp2_with fail
              refine HKO1.out.mono ?_
              rintro e wr2 ⟨v1, rfl, ho1, hb⟩
              obtain ⟨P, hP⟩ : ∃ P, outsW ps X = P := ⟨_, rfl⟩
              rw [hP] at ho1
              obtain ⟨Ap, cp, rfl, hcp, hCp⟩ := own_ints_reads ho1
              have HC2 := Lib.hid (HC1.out.next hb)
              have HCP := Lib.hid hCp
              have HPP := Lib.hid hP
              have KO2 := out_calls wr2 pb qs (sy2 : Int) HC2.out.mb
              rw [st_out HSY2.out] at KO2
              have HKO2 := Lib.hid KO2
              clear KO2 ho1 hb hCp hP HC1 HKO1
              go_wp2_with fail
              refine HKO2.out.mono ?_
              rintro e wr3 ⟨v2, rfl, ho2, hb⟩
              obtain ⟨Q, hQ⟩ : ∃ Q, outsW qs X = Q := ⟨_, rfl⟩
              rw [hQ] at ho2
              obtain ⟨Aq, cq, rfl, hcq, hCq⟩ := own_ints_reads ho2
              have hle : Q.length = P.length := by rw [← hQ, ← HPP.out]; exact HO2.out X
              have HQM : Hid (∀ z ∈ Q, ∃ j : Nat, z = (j : Int) ∧ j < ps.length ∧ (((j + k) % ps.length : Nat) : Int) ∈ P) := fun z hz => by
                rw [← hQ] at hz
                rw [← HPP.out]
                exact HO1.out X z hz
              rw [hle] at hcq hCq ⊢
              have HC3 := Lib.hid (HC2.out.next hb)
              have HCP3 := Lib.hid (Kd.C_below HCP.out hb)
              have HCQ3 := Lib.hid hCq
              have HQL3 := Lib.hid hle
              have hPl : P.length ≤ 64 := by rw [← HPP.out]; exact (outs_len HPN.out X).1
              have KW1 := word_calls wr3 pa ps (sx2 : Int) HC3.out.ma
              obtain ⟨Z, hZ⟩ : ∃ Z, lsuf (trie ps) X = Z := ⟨_, rfl⟩
              rw [(st_word HSX2.out).1, hZ] at KW1
              have HKW1 := Lib.hid KW1
              have hZ2 : lsuf (trie qs) X = Z := by rw [← hZ]; exact (lsuf_same (trie_same HPM.out) X).symm
              have HZ2 := Lib.hid hZ2
              clear ho2 hQ hle hb hCq HCP HC2 HKO2 KW1 hZ hZ2
              go_wp2_with fail
              refine HKW1.out.mono ?_
              rintro e wr4 ⟨v3, rfl, ho3, hb⟩
              obtain ⟨Az, cz, rfl, hcz, hCz⟩ := own_bytes_reads ho3
              have HC4 := Lib.hid (HC3.out.next hb)
              have HCP4 := Lib.hid (Kd.C_below HCP3.out hb)
              have HCQ4 := Lib.hid (Kd.C_below HCQ3.out hb)
              have HCZ := Lib.hid hCz
              have KW2 := word_calls wr4 pb qs (sy2 : Int) HC4.out.mb
              rw [(st_word HSY2.out).1, HZ2.out] at KW2
              have HKW2 := Lib.hid KW2
              clear ho3 hb hCz HC3 HCP3 HCQ3 HKW1 KW2
              go_wp2_with fail
              refine HKW2.out.mono ?_
              rintro e wr5 ⟨v4, rfl, ho4, hb⟩
              obtain ⟨Ay, cy, rfl, hcy, hCy⟩ := own_bytes_reads ho4
              have HC5 := Lib.hid (HC4.out.next hb)
              have HCP5 := Lib.hid (Kd.C_below HCP4.out hb)
              have HCQ5 := Lib.hid (Kd.C_below HCQ4.out hb)
              have KS := same_ctr (Kd.C_below HCZ.out hb) hcz hCy hcy
              rw [decide_eq_true rfl] at KS
              have HKS := Lib.hid KS
              clear ho4 hb hCy HC4 HCP4 HCQ4 HCZ HKW2 KS
              go_wp2_with fail
              refine HKS.out.mono ?_
              rintro e wr6 ⟨rfl, hd⟩
              have HC6 := Lib.hid (HC5.out.next (below_of_drew hd))
              have HCP6 := Lib.hid (Kd.C_below HCP5.out (below_of_drew hd))
              have HCQ6 := Lib.hid (Kd.C_below HCQ5.out (below_of_drew hd))
              clear hd HKS HC5 HCP5 HCQ5
              go_wp2
              go_loopg [18] P.length (fun g2 vn wr => ∃ n : Nat, vn = .int .i64 (n : Int) ∧ n ≤ P.length ∧ P.length - n ≤ g2 ∧ Hid (CtxU w wr pa pb ps qs (some ad) c1 x) ∧ Hid ((Kd.int .i64).C wr Ap P.length P) ∧ Hid ((Kd.int .i64).C wr Aq P.length Q))
              case atStart => exact ⟨0, rfl, Nat.zero_le _, Nat.le_refl _, HC6, HCP6, HCQ6⟩
              case round =>
                clear HC6 HCP6 HCQ6
                obtain ⟨n, rfl, hn, hg2, HC, HCP, HCQ⟩ := hrel
                by_cases hnl : n < P.length
                · have hnz : (n : Int) < (P.length : Int) := by omega
                  have hnq : n < Q.length := by rw [HQL3.out]; exact hnl
                  obtain ⟨zz, hzz⟩ : ∃ zz, Q.getD n 0 = zz := ⟨_, rfl⟩
                  obtain ⟨j, hj1, hj2, hj3⟩ := HQM.out zz (by rw [← hzz, List.getD_eq_getElem?_getD, List.getElem?_eq_getElem hnq, Option.getD_some]; exact List.getElem_mem _)
                  obtain ⟨r, hr⟩ : ∃ r : Nat, (j + k) % ps.length = r := ⟨_, rfl⟩
                  rw [hr] at hj3
                  subst hj1
                  have HZZ := Lib.hid hzz
                  have HJ3 := Lib.hid hj3
                  have hrz : ((j : Int) + (k : Int)) % (ps.length : Int) = (r : Int) := by rw [← hr, Int.natCast_emod, Int.natCast_add]
                  have HRZ := Lib.hid hrz
                  clear hzz hj3 hr hrz
                  go_wp2
                  go_loopg [19, 20] P.length (fun g3 vb vm wr => ∃ (B : Bool) (m : Nat), vb = .bool B ∧ vm = .int .i64 (m : Int) ∧ m ≤ P.length ∧ P.length - m ≤ g3 ∧ Hid (B = true ↔ (r : Int) ∈ P.take m) ∧ Hid (CtxU w wr pa pb ps qs (some ad) c1 x) ∧ Hid ((Kd.int .i64).C wr Ap P.length P) ∧ Hid ((Kd.int .i64).C wr Aq P.length Q))
                  case atStart => exact ⟨false, 0, rfl, rfl, Nat.zero_le _, Nat.le_refl _, by simp [Hid], HC, HCP, HCQ⟩
                  case round =>
                    clear HC HCP HCQ
                    obtain ⟨B, m, rfl, rfl, hm, hg3, HB, HC, HCP, HCQ⟩ := hrel
                    by_cases hml : m < P.length
                    · have hmz : (m : Int) < (P.length : Int) := by omega
                      obtain ⟨adp, rfl, hcp⟩ := ints_cell HCP.out rfl hml
                      obtain ⟨adq, rfl, hcq⟩ := ints_cell HCQ.out HQL3.out.symm hnq
                      rw [HZZ.out] at hcq
                      have hms := mem_take_succ hml (r : Int)
                      obtain ⟨pm, hpm⟩ : ∃ pm, P.getD m 0 = pm := ⟨_, rfl⟩
                      rw [hpm] at hcp hms
                      have HMS := Lib.hid hms
                      have hwj : IntKind.i64.wrap ((j : Int) + (k : Int)) = (j : Int) + (k : Int) := by rw [IntKind.wrap_i64]; have := HPN.out; omega
                      have hwm : IntKind.i64.wrap ((m : Int) + 1) = (m : Int) + 1 := by rw [IntKind.wrap_i64]; omega
                      clear hpm hms
                      cases B
                      · have hrz := HRZ.out
                        have hrt : Int.tmod ((j : Int) + (k : Int)) (ps.length : Int) = (r : Int) := by rw [Int.tmod_eq_emod_of_nonneg (by omega), hrz]
                        by_cases he : pm = (r : Int)
                        · have hez : (pm == (r : Int)) = true := by rw [beq_iff_eq]; exact he
                          have hnew : Hid (true = true ↔ (r : Int) ∈ P.take (m + 1)) := ⟨fun _ => HMS.out.2 (.inr he), fun _ => rfl⟩
                          clear he
                          go_wp2_with fail
                          go_quiet (fail)
                          go_wp2
                          go_roundg (P.length - (m + 1))
                          case measure => omega
                          case rel => exact ⟨true, m + 1, rfl, by go_num, by omega, Nat.le_refl _, ⟨fun _ => hnew.out.1 trivial, fun _ => rfl⟩, HC.out.next (below_drewN' (Below.refl _ _) nq), Kd.C_below HCP.out (below_drewN' (Below.refl _ _) nq), Kd.C_below HCQ.out (below_drewN' (Below.refl _ _) nq)⟩
                        · have hez : (pm == (r : Int)) = false := by rw [beq_eq_false_iff_ne]; exact he
                          have hnew : Hid (false = true ↔ (r : Int) ∈ P.take (m + 1)) := ⟨fun h => (Bool.false_ne_true h).elim, fun h => (HMS.out.1 h).elim HB.out.2 (fun h => absurd h he)⟩
                          clear he
                          go_wp2_with fail
                          go_quiet (fail)
                          go_wp2
                          go_roundg (P.length - (m + 1))
                          case measure => omega
                          case rel => exact ⟨false, m + 1, rfl, by go_num, by omega, Nat.le_refl _, hnew, HC.out.next (below_drewN' (Below.refl _ _) nq), Kd.C_below HCP.out (below_drewN' (Below.refl _ _) nq), Kd.C_below HCQ.out (below_drewN' (Below.refl _ _) nq)⟩
                      · have hnew : Hid (true = true ↔ (r : Int) ∈ P.take (m + 1)) := ⟨fun _ => HMS.out.2 (.inl (HB.out.1 rfl)), fun _ => rfl⟩
                        go_wp2_with fail
                        go_quiet (fail)
                        go_wp2
                        go_roundg (P.length - (m + 1))
                        case measure => omega
                        case rel => exact ⟨true, m + 1, rfl, by go_num, by omega, Nat.le_refl _, ⟨fun _ => hnew.out.1 trivial, fun _ => rfl⟩, HC.out.next (below_drewN' (Below.refl _ _) nq), Kd.C_below HCP.out (below_drewN' (Below.refl _ _) nq), Kd.C_below HCQ.out (below_drewN' (Below.refl _ _) nq)⟩
                    · obtain rfl : m = P.length := by omega
                      have hB : B = true := HB.out.2 (by rw [List.take_length]; exact HJ3.out)
                      subst hB
                      have hwn : IntKind.i64.wrap ((n : Int) + 1) = (n : Int) + 1 := by rw [IntKind.wrap_i64]; omega
                      go_wp2
                      go_roundg (P.length - (n + 1))
                      case measure => omega
                      case rel => exact ⟨n + 1, by go_num, by omega, Nat.le_refl _, HC, HCP, HCQ⟩
                · obtain rfl : n = P.length := by omega
                  have hwi : IntKind.i64.wrap ((i : Int) + 1) = (i : Int) + 1 := by rw [IntKind.wrap_i64]; omega
                  rw [← HXX.out] at HSX2 HSY2
                  go_wp2
                  go_roundg (x.length - (i + 1))
                  case measure => omega
                  case rel => exact ⟨i + 1, sx2, sy2, rfl, rfl, by go_num, by omega, by omega, Nat.le_refl _, HSX2, HSY2, HC⟩
            · have h3 : ¬ ((i : Int) < 300) := by omega
              have hiz : (i : Int) < (x.length : Int) := by omega
              go_wp2_with fail
              refine (awake6_calls _).mono ?_
              rintro e w6 ⟨rfl, hb⟩
              have B6 := Lib.hid (HC.out.below.trans (hb.mono HC.out.below.size))
              clear hb
              go_wp2
              go_ret
              exact ⟨rfl, B6.out⟩
          · have hiz : ¬ ((i : Int) < (x.length : Int)) := by omega
            go_wp2_with fail
            refine (awake6_calls _).mono ?_
            rintro e w6 ⟨rfl, hb⟩
            have B6 := Lib.hid (HC.out.below.trans (hb.mono HC.out.below.size))
            clear hb
            go_wp2
            go_ret
            exact ⟨rfl, B6.out⟩
end Go.Proofs.Ytdciniefkodeaaa.PAll
