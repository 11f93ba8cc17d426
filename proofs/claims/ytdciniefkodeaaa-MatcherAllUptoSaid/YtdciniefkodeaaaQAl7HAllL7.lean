/- MatcherAll, walked. -/
import Derived.Test.YtdciniefkodeaaaQAl7HHits
set_option linter.unusedVariables false
set_option linter.unusedSimpArgs false
namespace Go.Proofs.Ytdciniefkodeaaa.PAll
open Go.Sort Go.RowKit Go.Proofs.YtdciniefkodeaaaW.PrintWords Go.Proofs.YtdciniefkodeaaaW.PrintLast Go.Proofs.YtdciniefkodeaaaW.PrintMore
theorem hits_ctr {w : World} {A : Option Addr} {c : Nat} {ps : List Wd} {A1 : Option Addr} {c1 : Nat} {x : Wd} (most : Int) (h : PsAt w A c ps) (hx : TxAt w A1 c1 x) (hz : chkW ps = 0) (hl : x.length ≤ 1048576) :
    Calls Try.prog 33 #[.slice A ps.length c, .slice A1 x.length c1, .int .i64 most] w fun e w' => Below w.heap.size w w' ∧ ∃ A c, e = .returned (.tuple #[.slice A (allW ps x most).1.length c, .bool (allW ps x most).2]) ∧ HtAt w' A c (allW ps x most).1 := by
  refine (hits_calls w A c ps A1 c1 x most h hx hz hl).mono ?_
  rintro e w' ⟨hb, v, rfl, ho⟩
  have hp := (chkW_zero hz).2.1
  have h1 := hits_le hp x x.length
  obtain ⟨A, c, rfl, hh⟩ := ht_of ho (by unfold allW; rw [List.length_take]; omega)
  exact ⟨hb, A, c, rfl, hh⟩
theorem str_conv {w : World} {A : Option Addr} {c : Nat} {x : Wd} (h : TxAt w A c x) : (convert 32 9 (.slice A x.length c)).run Try.prog w = .ok (.string (strOfNums x)) w :=
  (bytesIn_of_C h.reads).convert rfl c 32 5 9 Try.underlying32 Try.underlying5 Try.underlying9
set_option maxHeartbeats 4000000 in
set_option maxRecDepth 1000000 in
theorem all_walk (A : Option Addr) (c : Nat) (ps : List Wd) (A1 : Option Addr) (c1 : Nat) (x : Wd) (most : Int) (w : World) (h : PsAt w A c ps) (hx : TxAt w A1 c1 x) (hl : x.length ≤ 1048576) : Calls Try.prog 8 #[.slice A ps.length c, .slice A1 x.length c1, .int .i64 most] w fun e w' => e = .returned (.bool true) ∧ Below w.heap.size w w' := by
  have K0 := Lib.hid (copy_ctr h)
  have HP := Lib.hid h
  have HX := Lib.hid hx
  have HL := Lib.hid hl
  clear h hx hl
  go_enter Try.func8, Try.ntmps8
  go_wp2_with fail
  refine K0.out.mono ?_
  rintro e w2 ⟨A3, c3, rfl, hp, hb⟩
  have B2 := Lib.hid hb
  have K2 := Lib.hid (build_ctr hp)
  clear hp hb K0
  go_wp2_with fail
  refine K2.out.mono ?_
  rintro e wc ⟨hb, hr⟩
  have B3 := Lib.hid (B2.out.trans (hb.mono B2.out.size))
  clear hb K2 B2
  have HO0 : Hid ((wc.alloc (.cells #[] 5)).ownsRow wc.heap.size 5 1 (.slice (some ⟨wc.heap.size, 0, none⟩) 0 0) ([] : Wd).length (nums .u8 [])) := World.ownsRow_lit (base := wc.heap.size) (e := 5) (size := 1) wc #[] 0 (Nat.le_refl _) (by decide) rfl
  have HB0 : Hid (Below wc.heap.size wc (wc.alloc (.cells #[] 5))) := (Below.refl _ _).alloc (Nat.le_refl _) _
  have HXc : Hid (TxAt wc A1 c1 x) := HX.out.below B3.out
  have hxl1 : ([] : Wd).length + x.length ≤ 140737488355328 := by have := HL.out; simp; omega
  have HN1 := Lib.hid hxl1
  clear hxl1
  rcases hr with ⟨hz0, rfl⟩ | ⟨hz0, pa, rfl, hm⟩
  · have e0 : (chkW ps != 0) = true := by simp [hz0]
    clear hz0
    go_wp2_with (first
        | ((with_reducible refine gate_builtin (b := .append) (xs := #[.tmp 20, .tmp 21]) rfl ?_); at_builtin; refine print_append_row wc.heap.size rfl (.tmp 20) (.tmp 21) 32 5 .u8 1 rfl Try.underlying32 info5 (by decide) (.slice (some ⟨wc.heap.size, 0, none⟩) 0 0) [] x A1 x.length c1 rfl rfl HO0.out (Kd.reads_of_C (HXc.out.below HB0.out).reads) HB0.out (by simp) (by rw [Nat.mul_one]; exact HN1.out) ?_; intro v1 w1 hown hB hg _hat; have ho1 : w1.ownsRow wc.heap.size 5 1 v1 x.length (nums .u8 x) := hown; obtain ⟨Av, cv, hv, hcv, hCv⟩ := own_bytes_reads ho1; subst hv; have HB1 := Lib.hid hB; clear hown ho1 hB hg _hat HO0 HB0 hcv hCv))
    refine (all_none _ _ _ _ _).mono ?_
    rintro e w4 ⟨rfl, hb⟩
    have B4 := Lib.hid (below_next (below_next B3.out HB1.out) hb)
    clear hb B3 HB1
    go_wp2_with fail
    refine (awake7_calls _).mono ?_
    rintro e w6 ⟨rfl, hb⟩
    have B6 := Lib.hid (below_next B4.out hb)
    clear hb B4
    go_wp2
    go_ret
    exact ⟨rfl, B6.out⟩
  · have HZ := Lib.hid (show chkW ps = 0 from hz0)
    have HM := Lib.hid hm
    clear hm hz0
    go_wp2_with (first
        | ((with_reducible refine gate_builtin (b := .append) (xs := #[.tmp 20, .tmp 21]) rfl ?_); at_builtin; refine print_append_row wc.heap.size rfl (.tmp 20) (.tmp 21) 32 5 .u8 1 rfl Try.underlying32 info5 (by decide) (.slice (some ⟨wc.heap.size, 0, none⟩) 0 0) [] x A1 x.length c1 rfl rfl HO0.out (Kd.reads_of_C (HXc.out.below HB0.out).reads) HB0.out (by simp) (by rw [Nat.mul_one]; exact HN1.out) ?_; intro v1 w1 hown hB hg _hat; have ho1 : w1.ownsRow wc.heap.size 5 1 v1 x.length (nums .u8 x) := hown; obtain ⟨Av, cv, hv, hcv, hCv⟩ := own_bytes_reads ho1; subst hv; have HB1 := Lib.hid hB; have HTX : Hid (TxAt w1 Av cv x) := ⟨hCv, hcv, HX.out.bytes, HX.out.size⟩; clear hown ho1 hB hg _hat HO0 HB0 hcv hCv))
    have B4 := Lib.hid (below_next B3.out HB1.out)
    have KA := all_ctr most (HM.out.below HB1.out) HTX.out HL.out
    obtain ⟨r, hr⟩ : ∃ r, allW ps x most = r := ⟨_, rfl⟩
    rw [hr] at KA
    have HR := Lib.hid hr
    clear hr B3
    refine KA.mono ?_
    rintro e w4 ⟨hb, Al, cl, rfl, hh4⟩
    have B5 := Lib.hid (below_next B4.out hb)
    have HH4 := Lib.hid hh4
    have HTX4 := Lib.hid (HTX.out.below hb)
    have KH := hits_ctr most (HP.out.below B5.out) (HX.out.below B5.out) HZ.out HL.out
    rw [HR.out] at KH
    have HKH := Lib.hid KH
    clear KA KH hb hh4 B4 HTX HM HB1
    go_wp2_with fail
    refine HKH.out.mono ?_
    rintro e w5 ⟨hb, Aw, cw, rfl, hh5⟩
    have B6 := Lib.hid (below_next B5.out hb)
    have KS := same7_ctr (HH4.out.below hb) hh5
    rw [decide_eq_true rfl] at KS
    have HKS := Lib.hid KS
    have HTX5 := Lib.hid (HTX4.out.below hb)
    clear KS hb hh5 HH4 HTX4 B5 HKH
    go_wp2_with fail
    refine HKS.out.mono ?_
    rintro e w6 ⟨rfl, hb⟩
    have B7 := Lib.hid (below_next B6.out hb)
    have cv1 := str_conv (HTX5.out.below hb)
    have cv2 := str_conv (HX.out.below B7.out)
    clear hb HTX5 B6 HKS
    go_wp2_with fail
    refine (awake7_calls _).mono ?_
    rintro e w8 ⟨rfl, hb⟩
    have B8 := Lib.hid (below_next B7.out hb)
    clear hb B7
    go_wp2
    go_ret
    exact ⟨rfl, B8.out⟩
end Go.Proofs.Ytdciniefkodeaaa.PAll
