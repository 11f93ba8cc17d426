/- MatcherCaps, walked. -/
import Derived.Deep.CutBlock
import Derived.Test.YtdciniefkodeaaaQCa7HCapsP
set_option linter.unusedVariables false
set_option linter.unusedSimpArgs false
namespace Go.Proofs.Ytdciniefkodeaaa.PAll
open Go.Sort Go.RowKit Go.Proofs.YtdciniefkodeaaaW.PrintWords Go.Proofs.YtdciniefkodeaaaW.PrintLast Go.Proofs.YtdciniefkodeaaaW.PrintMore
/-- What Caps keeps: the machine, the texts, the hits. -/
structure CtxA (w wr : World) (pa : Nat) (ps : List Wd) (A1 : Option Addr) (c1 : Nat) (x : Wd) (A2 : Option Addr) (c2 : Nat) (y : Wd) : Prop where
  below : Below w.heap.size w wr
  mach : MachAt wr pa ps
  text : TxAt wr A1 c1 x
  more : TxAt wr A2 c2 y
theorem CtxA.next {w wr w1 : World} {pa : Nat} {ps : List Wd} {A1 : Option Addr} {c1 : Nat} {x : Wd} {A2 : Option Addr} {c2 : Nat} {y : Wd} (h : CtxA w wr pa ps A1 c1 x A2 c2 y) (hb : Below wr.heap.size wr w1) : CtxA w w1 pa ps A1 c1 x A2 c2 y :=
  ⟨below_next h.below hb, h.mach.below hb, h.text.below hb, h.more.below hb⟩
set_option maxHeartbeats 4000000 in
set_option maxRecDepth 1000000 in
theorem caps_walk (A : Option Addr) (c : Nat) (ps : List Wd) (A1 : Option Addr) (c1 : Nat) (x : Wd) (A2 : Option Addr) (c2 : Nat) (y : Wd) (w : World) (h : PsAt w A c ps) (hx : TxAt w A1 c1 x) (hy : TxAt w A2 c2 y) (hl : x.length + y.length ≤ 1048576) : Calls Try.prog 9 #[.slice A ps.length c, .slice A1 x.length c1, .slice A2 y.length c2] w fun e w' => e = .returned (.bool true) ∧ Below w.heap.size w w' := by
  have K0 := Lib.hid (copy_ctr h)
  have HX := Lib.hid hx
  have HY := Lib.hid hy
  have HL := Lib.hid hl
  clear h hx hy hl
  go_enter Try.func9, Try.ntmps9
  go_wp2_with fail
  refine K0.out.mono ?_
  rintro e w2 ⟨A3, c3, rfl, hp, hb⟩
  have B2 := Lib.hid hb
  have K2 := Lib.hid (build_ctr hp)
  clear hp hb K0
  go_wp2_with fail
  refine K2.out.mono ?_
  rintro e w3 ⟨hb, hr⟩
  have B3 := Lib.hid (B2.out.trans (hb.mono B2.out.size))
  clear hb K2 B2
  rcases hr with ⟨hz0, rfl⟩ | ⟨hz0, pa, rfl, hm⟩
  · clear hz0
    go_wp2_with fail
    refine (awake7_calls _).mono ?_
    rintro e w6 ⟨rfl, hb⟩
    have B6 := Lib.hid (below_next B3.out hb)
    clear hb
    go_wp2
    go_ret
    exact ⟨rfl, B6.out⟩
  · have HZ := Lib.hid (show chkW ps = 0 from hz0)
    have hpn := (chkW_zero hz0).2.1
    have HPN := Lib.hid hpn
    have hxl : x.length ≤ 1048576 := by have := HL.out; omega
    have HXL := Lib.hid hxl
    have HC : Hid (CtxA w w3 pa ps A1 c1 x A2 c2 y) := ⟨B3.out, hm, HX.out.below B3.out, HY.out.below B3.out⟩
    have KA := Lib.hid (all_ctr 1099511627776 hm HC.out.text hxl)
    rw [all_whole hpn hxl (by omega)] at KA
    obtain ⟨hs, hhs⟩ : ∃ hs, hitsTo ps x x.length = hs := ⟨_, rfl⟩
    rw [hhs] at KA
    have HS := Lib.hid hhs
    clear hm hz0 hpn hxl hhs B3 HX HY
    go_wp2_with fail
    refine KA.out.mono ?_
    rintro e w4 ⟨hb, Al, cl, rfl, hht⟩
    have HC4 := Lib.hid (HC.out.next hb)
    have HH := Lib.hid hht
    have hsl := hht.size
    clear hb hht KA HC
    go_upto_block 0 with (fail)
    go_cut [] (fun wx => Hid (CtxA w wx pa ps A1 c1 x A2 c2 y) ∧ Hid (HtAt wx Al cl hs))
    case first =>
      go_wp2_with fail
      go_loopg [11] 10 (fun g1 vn wr => ∃ n : Nat, vn = .int .i64 (n : Int) ∧ n ≤ hs.length + 1 ∧ n ≤ 9 ∧ 9 - n ≤ g1 ∧ Hid (CtxA w wr pa ps A1 c1 x A2 c2 y) ∧ Hid (HtAt wr Al cl hs))
      case atStart => exact ⟨0, rfl, Nat.zero_le _, Nat.zero_le _, by omega, HC4, HH⟩
      case round =>
        clear HC4 HH
        obtain ⟨n, rfl, hn1, hn2, hg1, HC, HH⟩ := hrel
        by_cases hc : n ≤ hs.length ∧ n < 9
        · obtain ⟨hc1, hc2⟩ := hc
          have hz1 : (n : Int) ≤ (hs.length : Int) := by omega
          have hz2 : (n : Int) < 9 := by omega
          have KA := all_ctr (n : Int) HC.out.mach HC.out.text HXL.out
          rw [all_part (by rw [HS.out]; exact hc1), HS.out] at KA
          have htl : (hs.take n).length = n := by rw [List.length_take]; omega
          simp only [htl] at KA
          have HKA := Lib.hid KA
          have HTL := Lib.hid htl
          have hwn : IntKind.i64.wrap ((n : Int) + 1) = (n : Int) + 1 := by rw [IntKind.wrap_i64]; omega
          have hcut := cut_hits (A := Al) (c := cl) hc1 HH.out.cap
          clear KA htl
          by_cases he : n = hs.length
          · have hez : ((n : Int) == (hs.length : Int)) = true := by rw [beq_iff_eq]; omega
            have hde : decide (n = hs.length) = true := decide_eq_true he
            rw [hde] at HKA
            have HE := Lib.hid he
            clear he hde
            go_wp2_with fail
            refine HKA.out.mono ?_
            rintro e w5 ⟨hb, Ax, cx, rfl, hx5⟩
            have HC5 := Lib.hid (HC.out.next hb)
            have HH5 := Lib.hid (HH.out.below hb)
            have KS := same7_ctr hx5 (HH5.out.take hc1)
            rw [HTL.out, decide_eq_true rfl] at KS
            have HKS := Lib.hid KS
            clear hb KS HKA HC HH hx5
            go_wp2_with fail
            refine HKS.out.mono ?_
            rintro e w6 ⟨rfl, hb⟩
            have HC6 := Lib.hid (HC5.out.next hb)
            have HH6 := Lib.hid (HH5.out.below hb)
            clear hb HKS HC5 HH5
            go_wp2
            go_roundg (9 - (n + 1))
            case measure => omega
            case rel => exact ⟨n + 1, by go_num, by omega, by omega, Nat.le_refl _, HC6, HH6⟩
          · have hez : ((n : Int) == (hs.length : Int)) = false := by rw [beq_eq_false_iff_ne]; omega
            have hde : decide (n = hs.length) = false := decide_eq_false he
            rw [hde] at HKA
            have HE := Lib.hid he
            clear he hde
            go_wp2_with fail
            refine HKA.out.mono ?_
            rintro e w5 ⟨hb, Ax, cx, rfl, hx5⟩
            have HC5 := Lib.hid (HC.out.next hb)
            have HH5 := Lib.hid (HH.out.below hb)
            have KS := same7_ctr hx5 (HH5.out.take hc1)
            rw [HTL.out, decide_eq_true rfl] at KS
            have HKS := Lib.hid KS
            clear hb KS HKA HC HH hx5
            go_wp2_with fail
            refine HKS.out.mono ?_
            rintro e w6 ⟨rfl, hb⟩
            have HC6 := Lib.hid (HC5.out.next hb)
            have HH6 := Lib.hid (HH5.out.below hb)
            clear hb HKS HC5 HH5
            go_wp2
            go_roundg (9 - (n + 1))
            case measure => omega
            case rel => exact ⟨n + 1, by go_num, by omega, by omega, Nat.le_refl _, HC6, HH6⟩
        · by_cases hc1 : n ≤ hs.length
          · have hz1 : (n : Int) ≤ (hs.length : Int) := by omega
            have hz2 : ¬ (n : Int) < 9 := by omega
            go_wp2
            go_meet
            exact ⟨HC, HH⟩
          · have hz1 : ¬ (n : Int) ≤ (hs.length : Int) := by omega
            go_wp2
            go_meet
            exact ⟨HC, HH⟩
    case rest =>
      obtain ⟨HC, HH⟩ := hcut
      clear HC4
      have HO0 : Hid ((wc.alloc (.cells #[] 5)).ownsRow wc.heap.size 5 1 (.slice (some ⟨wc.heap.size, 0, none⟩) 0 0) ([] : Wd).length (nums .u8 [])) := World.ownsRow_lit (base := wc.heap.size) (e := 5) (size := 1) wc #[] 0 (Nat.le_refl _) (by decide) rfl
      have HB0 : Hid (Below wc.heap.size wc (wc.alloc (.cells #[] 5))) := (Below.refl _ _).alloc (Nat.le_refl _) _
      have hxl1 : ([] : Wd).length + x.length ≤ 140737488355328 := by have := HL.out; simp; omega
      have hyl1 : x.length + y.length ≤ 140737488355328 := by have := HL.out; omega
      have HN1 := Lib.hid hxl1
      have HN2 := Lib.hid hyl1
      clear hxl1 hyl1
      obtain ⟨z, hz⟩ : ∃ z, x ++ y = z := ⟨_, rfl⟩
      have HZ2 := Lib.hid hz
      clear hz
      go_wp2_with (first
        | ((with_reducible refine gate_builtin (b := .append) (xs := #[.tmp 67, .tmp 68]) rfl ?_); at_builtin; refine print_append_row wc.heap.size rfl (.tmp 67) (.tmp 68) 32 5 .u8 1 rfl Try.underlying32 info5 (by decide) (.slice (some ⟨wc.heap.size, 0, none⟩) 0 0) [] x A1 x.length c1 rfl rfl HO0.out (Kd.reads_of_C (HC.out.text.below HB0.out).reads) HB0.out (by simp) (by rw [Nat.mul_one]; exact HN1.out) ?_; intro v1 w1 hown hB hg _hat; have ho1 : w1.ownsRow wc.heap.size 5 1 v1 x.length (nums .u8 x) := hown; obtain ⟨Av, cv, hv⟩ := own_slice ho1; subst hv; have HO1 := Lib.hid ho1; have HB1 := Lib.hid hB; clear hown ho1 hB hg _hat HO0 HB0)
        | ((with_reducible refine gate_builtin (b := .append) (xs := #[.tmp 69, .tmp 70]) rfl ?_); at_builtin; refine print_append_row wc.heap.size rfl (.tmp 69) (.tmp 70) 32 5 .u8 1 rfl Try.underlying32 info5 (by decide) (.slice Av x.length cv) x y A2 y.length c2 rfl rfl HO1.out (Kd.reads_of_C (HC.out.more.below HB1.out).reads) HB1.out HB1.out.size (by rw [Nat.mul_one]; exact HN2.out) ?_; intro v2 w2 hown hB hg _hat; rw [HZ2.out] at hown; obtain ⟨Av2, cv2, hv, hcv, hCv⟩ := own_bytes_reads hown; subst hv; have HO2 := Lib.hid hCv; have HCV := Lib.hid hcv; have HB2 := Lib.hid hB; clear hown hB hg _hat HO1 HB1 hCv hcv))
      have hxy : z.length ≤ 1048576 := by rw [← HZ2.out, List.length_append]; exact HL.out
      have HC5 := Lib.hid (HC.out.next HB2.out)
      have HH5 := Lib.hid (HH.out.below HB2.out)
      have htx : TxAt w2 Av2 cv2 z := ⟨HO2.out, HCV.out, fun b hb => by
        rw [← HZ2.out] at hb
        exact (List.mem_append.1 hb).elim (HC.out.text.bytes b) (HC.out.more.bytes b), by omega⟩
      have KA := all_ctr 1099511627776 HC5.out.mach htx hxy
      rw [all_whole HPN.out hxy (by omega)] at KA
      obtain ⟨r, hr, hrl⟩ := caps_plain (ps := ps) x y
      rw [HS.out, HZ2.out] at hr
      rw [hr] at KA
      obtain ⟨t, ht⟩ : ∃ t, hs ++ r = t := ⟨_, rfl⟩
      rw [ht] at KA
      have hle : hs.length ≤ t.length := by rw [← ht, List.length_append]; omega
      have htk : t.take hs.length = hs := by rw [← ht, List.take_left]
      have hdr : ∀ i (hi : i < t.length), hs.length ≤ i → (x.length : Int) < t[i].2 := fun i hi hge => by
        refine hrl _ ?_
        subst ht
        rw [List.getElem_append_right hge]
        exact List.getElem_mem _
      have HTK := Lib.hid htk
      have HDR := Lib.hid hdr
      have HKA := Lib.hid KA
      clear KA hxy htx hr hrl ht htk hdr HC HH HB2 HO2 HCV
      refine HKA.out.mono ?_
      rintro e w6 ⟨hb, Ay, cy, rfl, hy6⟩
      have HC6 := Lib.hid (HC5.out.next hb)
      have HH6 := Lib.hid (HH5.out.below hb)
      have HY6 := Lib.hid hy6
      have hz3 : ¬ (t.length : Int) < (hs.length : Int) := by omega
      have hz4 : decide (t.length < hs.length) = false := decide_eq_false (by omega)
      have hz5 : ¬ t.length < hs.length := by omega
      have hcut2 := cut_hits (A := Ay) (c := cy) hle hy6.cap
      have htl : (t.take hs.length).length = hs.length := by rw [List.length_take]; omega
      have KS := same7_ctr (hy6.take hle) HH6.out
      rw [htl, decide_eq_true HTK.out] at KS
      have HKS := Lib.hid KS
      have hts := hy6.size
      clear hb hy6 htl KS HKA HC5 HH5
      go_wp2_with fail
      refine HKS.out.mono ?_
      rintro e w7 ⟨rfl, hb⟩
      have HC7 := Lib.hid (HC6.out.next hb)
      have HY7 := Lib.hid (HY6.out.below hb)
      clear hb HKS HC6 HH6 HY6 hcut2
      go_wp2
      go_loopg [16] t.length (fun g1 vi wr => ∃ i : Nat, vi = .int .i64 (i : Int) ∧ hs.length ≤ i ∧ i ≤ t.length ∧ t.length - i ≤ g1 ∧ Hid (CtxA w wr pa ps A1 c1 x A2 c2 y) ∧ Hid (HtAt wr Ay cy t))
      case atStart => exact ⟨hs.length, rfl, Nat.le_refl _, hle, by omega, HC7, HY7⟩
      case round =>
        clear HC7 HY7
        obtain ⟨i, rfl, hi1, hi2, hg1, HC, HY⟩ := hrel
        by_cases hlt : i < t.length
        · have hiz : (i : Int) < (t.length : Int) := by omega
          obtain ⟨ad, rfl, hcell⟩ := hit_end HY.out hlt
          have hd := HDR.out i hlt hi1
          obtain ⟨ei, hei⟩ : ∃ ei, t[i].2 = ei := ⟨_, rfl⟩
          rw [hei] at hcell hd
          have hnd : ¬ ei ≤ (x.length : Int) := by omega
          have hwi : IntKind.i64.wrap ((i : Int) + 1) = (i : Int) + 1 := by rw [IntKind.wrap_i64]; omega
          clear hei hd
          go_wp2
          go_roundg (t.length - (i + 1))
          case measure => omega
          case rel => exact ⟨i + 1, by go_num, by omega, by omega, Nat.le_refl _, HC, HY⟩
        · have hiz : ¬ (i : Int) < (t.length : Int) := by omega
          go_wp2_with fail
          refine (awake7_calls _).mono ?_
          rintro e w8 ⟨rfl, hb⟩
          have B8 := Lib.hid (below_next HC.out.below hb)
          clear hb
          go_wp2
          go_ret
          exact ⟨rfl, B8.out⟩
end Go.Proofs.Ytdciniefkodeaaa.PAll
