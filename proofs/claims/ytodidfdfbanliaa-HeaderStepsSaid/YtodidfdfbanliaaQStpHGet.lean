/- header.Get answers the value of the first field of a name (getL), and turns nothing that was there. -/
import Derived.Lib.Hide
import Derived.Outline
import Derived.Test.YtodidfdfbanliaaQStpHSem1
set_option linter.unusedVariables false
namespace Go.Proofs.Ytodidfdfbanliaa.PAll
open Go.RowKit Go.Proofs.YtodidfdfbanliaaW.PrintWords Go.Proofs.YtodidfdfbanliaaW.PrintLast
def isName (a : ByteArray) (f : S42) : Bool := sameL f.f0.data.toList a.data.toList
def getL (l : List S42) (a : ByteArray) : ByteArray × Bool := match l.find? (isName a) with | some f => (f.f1, true) | none => (⟨#[]⟩, false)
def smallNames (l : List S42) : Bool := l.all fun f => decide (f.f0.size ≤ 9223372036854775807)
def header_Get.f (l0 : List (S42)) (a1 : ByteArray) : Option (ByteArray × Bool) := if smallNames l0 = true then some (getL l0 a1) else none
set_option maxHeartbeats 1000000 in
set_option maxRecDepth 100000 in
theorem get1_calls (x y a : ByteArray) (b : Nat) (w : World) (hx : x.size ≤ 9223372036854775807) (hb : w.cell? ⟨b, 0, none⟩ = some (.string a)) :
    Calls Try.prog 61 #[.agg #[.string x, .string y], .pointer (some ⟨b, 0, none⟩)] w fun e w' => e = .returned (.bool (sameL x.data.toList a.data.toList)) ∧ Below w.heap.size w w' := by
  obtain ⟨k, hk⟩ := (header_Same.ev x a hx).rounds
  have hlt : b < w.heap.size := World.block_lt_of_cell? w ⟨b, 0, none⟩ hb
  go_enter Try.func61, Try.ntmps61
  go_wp2_with (go_at_call 27; refine (header_Same.calls k _ _ _ _ hk).mono ?_; rintro e w' ⟨rfl, ⟨nd, rfl⟩⟩)
  go_ret
  exact ⟨rfl, pw_below_drewN ((Below.refl _ w).alloc (Nat.le_refl _) _) _⟩
theorem rd_T42_at (l : List S42) (k : Nat) (h : k < l.length) : rd_T42 l (k : Int) = l[k] := by
  simp [rd_T42, List.getD_eq_getElem?_getD, List.getElem?_eq_getElem h]
def idxL (l : List S42) (a : ByteArray) : Int := match l.findIdx? (isName a) with | some i => (i : Int) | none => -1
theorem idxL_next (l : List S42) (a : ByteArray) (k : Nat) (h : k < l.length) (hF : (l.take k).findIdx? (isName a) = none) (hk : isName a l[k] = false) : (l.take (k + 1)).findIdx? (isName a) = none := by
  rw [List.take_succ_eq_append_getElem h, List.findIdx?_append, hF]
  simp [hk]
theorem idxL_found (l : List S42) (a : ByteArray) (k : Nat) (h : k < l.length) (hF : (l.take k).findIdx? (isName a) = none) (hk : isName a l[k] = true) : idxL l a = (k : Int) := by
  have e : l.findIdx? (isName a) = some k := by
    conv => lhs; rw [← List.take_append_drop k l, List.findIdx?_append, hF]
    simp
    exact ⟨0, by rw [List.drop_eq_getElem_cons h, List.findIdx?_cons, hk]; rfl, by omega⟩
  simp [idxL, e]
set_option maxHeartbeats 1000000 in
set_option maxRecDepth 100000 in
theorem indexFunc_calls (A0 : Option Addr) (c0 : Nat) (l0 : List S42) (a : ByteArray) (b : Nat) (w : World) (hr0 : Kd.C k42 w A0 l0.length l0) (hc0 : l0.length ≤ c0) (hs : smallNames l0 = true) (hb : w.cell? ⟨b, 0, none⟩ = some (.string a)) :
    Calls Try.prog 60 #[.slice A0 l0.length c0, .func (.func 61) #[] #[.pointer (some ⟨b, 0, none⟩)]] w fun e w' => e = .returned (.int .i64 (idxL l0 a)) ∧ Below w.heap.size w w' := by
  have hlt : b < w.heap.size := World.block_lt_of_cell? w ⟨b, 0, none⟩ hb
  have HR := Aside0.mk hr0
  have HS := Lib.hid hs
  have hmx := Kd.C_max hr0
  clear hr0 hs
  go_enter Try.func60, Try.ntmps60
  go_wp2
  go_loopw [8] (fun v wr => ∃ k : Nat, v = .int .i64 k ∧ k ≤ l0.length ∧ Hid ((l0.take k).findIdx? (isName a) = none) ∧ Below w.heap.size w wr) (fun v wr => l0.length - (intOf v).toNat)
  case atStart => exact ⟨0, rfl, by omega, rfl, Below.refl _ _⟩
  case round =>
    obtain ⟨k, rfl, hk, HF, hbw⟩ := hrel
    by_cases hlt2 : k < l0.length
    · have hC : Kd.C k42 wr A0 l0.length l0 := Kd.C_below HR.out hbw
      obtain ⟨ad, rfl, h0, h1⟩ := at_T42 hC (k : Int) (by omega) (by omega)
      clear hC
      simp only [Int.toNat_natCast] at h0 h1
      have hsm : (rd_T42 l0 (k : Int)).f0.size ≤ 9223372036854775807 := by
        have h2 := List.all_eq_true.1 HS.out (rd_T42 l0 (k : Int)) (by rw [rd_T42_at l0 k hlt2]; exact List.getElem_mem _)
        exact of_decide_eq_true h2
      have hbr : wr.cell? ⟨b, 0, none⟩ = some (.string a) := pw_cell_below hbw hb
      have HG := Lib.hid (get1_calls (rd_T42 l0 (k : Int)).f0 (rd_T42 l0 (k : Int)).f1 a b wr hsm hbr)
      have HN := Lib.hid (rd_T42_at l0 k hlt2)
      cases hv : sameL (rd_T42 l0 (k : Int)).f0.data.toList a.data.toList with
      | true =>
        rw [hv] at HG
        have HV := Lib.hid hv
        clear hv hsm
        go_wp2_with (go_at_call 61; refine HG.out.mono ?_; rintro e w' ⟨rfl, b1⟩)
        go_ret
        refine ⟨?_, hbw.trans (b1.mono hbw.size)⟩
        rw [idxL_found l0 a k hlt2 HF.out (by rw [isName, ← HN.out]; exact HV.out)]; rfl
      | false =>
        rw [hv] at HG
        have HV := Lib.hid hv
        clear hv hsm
        go_wp2_with (go_at_call 61; refine HG.out.mono ?_; rintro e w' ⟨rfl, b1⟩)
        go_roundw
        case rel => exact ⟨k + 1, by go_num, by omega, idxL_next l0 a k hlt2 HF.out (by rw [isName, ← HN.out]; exact HV.out), hbw.trans (b1.mono hbw.size)⟩
        case measure => simp [intOf]; omega
    · go_wp2
      go_ret
      refine ⟨?_, hbw⟩
      have hF := HF.out
      rw [List.take_of_length_le (by omega)] at hF
      simp [idxL, hF]
theorem getL_no (l : List S42) (a : ByteArray) (h : ¬ 0 ≤ idxL l a) : getL l a = (⟨#[]⟩, false) := by
  unfold idxL at h; unfold getL
  cases hf : l.findIdx? (isName a) with
  | some i => rw [hf] at h; simp at h
  | none =>
    have : l.find? (isName a) = none := by
      rw [List.find?_eq_none]; rw [List.findIdx?_eq_none_iff] at hf
      intro x hx; simp [hf x hx]
    rw [this]
theorem getL_yes (l : List S42) (a : ByteArray) (h : 0 ≤ idxL l a) : ∃ i : Nat, idxL l a = (i : Int) ∧ i < l.length ∧ getL l a = ((rd_T42 l (i : Int)).f1, true) := by
  unfold idxL at h ⊢; unfold getL
  cases hf : l.findIdx? (isName a) with
  | none => rw [hf] at h; simp at h
  | some i =>
    obtain ⟨hi, hp, hn⟩ := List.findIdx?_eq_some_iff_getElem.1 hf
    refine ⟨i, rfl, hi, ?_⟩
    have : l.find? (isName a) = some l[i] := by
      rw [List.find?_eq_some_iff_getElem]
      exact ⟨hp, i, hi, rfl, fun j hj => by simpa using hn j hj⟩
    rw [this, rd_T42_at l i hi]
set_option maxHeartbeats 1000000 in
set_option maxRecDepth 100000 in
theorem header_Get.calls (A0 : Option Addr) (c0 : Nat) (l0 : List (S42)) (a1 : ByteArray) (r1 : ByteArray) (r2 : Bool) (w : World) (hr0 : Kd.C k42 w A0 l0.length l0) (hc0 : l0.length ≤ c0) (h : header_Get.f l0 a1 = some (r1, r2)) :
    Calls Try.prog 25 #[.slice A0 l0.length c0, .string a1] w fun e w' => e = .returned (.tuple #[.string r1, .bool r2]) ∧ Below w.heap.size w w' := by
  unfold header_Get.f at h
  split at h
  case isFalse => cases h
  case isTrue hs =>
  have hE := Option.some.inj h
  clear h
  have hmf : ∀ (fn : Fn) (first cap : Array Value) (w : World), (Instr.makeFunc fn first cap).run Try.prog w = .ok (.func fn first cap) w := fun _ _ _ _ => rfl
  have HE := Lib.hid hE
  clear hE
  have HR := Aside0.mk hr0
  have hba : Below w.heap.size w (w.alloc (.cells #[.string a1] 9)) := (Below.refl _ w).alloc (Nat.le_refl _) _
  have HI := Lib.hid (indexFunc_calls A0 c0 l0 a1 w.heap.size (w.alloc (.cells #[.string a1] 9)) (Kd.C_alloc hr0 _) hc0 hs (by simp))
  clear hr0 hs
  by_cases h0 : 0 ≤ idxL l0 a1
  · obtain ⟨i, hi, hlt, hg⟩ := getL_yes l0 a1 h0
    rw [hi] at HI
    have HG := Lib.hid (hg.symm.trans HE.out)
    clear h0 hi hg
    go_enter Try.func25, Try.ntmps25
    go_wp2_with (fail)
    refine HI.out.mono ?_
    rintro e w1 ⟨rfl, b1⟩
    have hb1 := hba.trans (b1.mono (by simp))
    obtain ⟨ad, rfl, h0, h1⟩ := at_T42 (Kd.C_below HR.out hb1) (i : Int) (by omega) (by omega)
    simp only [Int.toNat_natCast] at h0 h1
    go_wp2
    go_ret2
    have hG := HG.out
    simp only [Prod.mk.injEq] at hG
    obtain ⟨rfl, rfl⟩ := hG
    exact ⟨rfl, hb1⟩
  · have hg := getL_no l0 a1 h0
    have HG := Lib.hid (hg.symm.trans HE.out)
    have hneg : idxL l0 a1 < 0 := by omega
    generalize idxL l0 a1 = n at *
    clear h0 hg
    go_enter Try.func25, Try.ntmps25
    go_wp2_with (fail)
    refine HI.out.mono ?_
    rintro e w1 ⟨rfl, b1⟩
    have hb1 := hba.trans (b1.mono (by simp))
    go_wp2
    go_ret2
    have hG := HG.out
    simp only [Prod.mk.injEq] at hG
    obtain ⟨rfl, rfl⟩ := hG
    exact ⟨rfl, hb1⟩
end Go.Proofs.Ytodidfdfbanliaa.PAll
