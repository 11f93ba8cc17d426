/- The reference's find, longest, Is, Word, Fail, Next. -/
import Derived.Test.YtdciniefkodeaaaQPl7HRefM
set_option linter.unusedVariables false
set_option linter.unusedSimpArgs false
namespace Go.Proofs.Ytdciniefkodeaaa.PAll
open Go.Sort Go.RowKit Go.Proofs.YtdciniefkodeaaaW.PrintWords Go.Proofs.YtdciniefkodeaaaW.PrintLast Go.Proofs.YtdciniefkodeaaaW.PrintMore
theorem kid_calls {w0 : World} (w : World) {g : Nat} {A : Option Addr} {c : Nat} {ps T : List Wd} (h : RefAt w0 w g A c ps T) {s : Nat} (hs : s < T.length) (b : Int) :
    Calls Try.prog 57 #[.pointer (some ⟨g, 0, none⟩), .int .i64 (s : Int), .int .u8 b] w fun e w' => e = .returned (.int .i64 (kidW T s b)) ∧ ∃ q, w' = w.drewN q := by
  obtain ⟨vW, vK, wv, kv, K, h1, h2, _, h4⟩ := h
  exact kidRaw_calls w h1 h2 h4 hs b
theorem RefAt.trie {w0 w : World} {g : Nat} {A : Option Addr} {c : Nat} {ps T : List Wd} (h : RefAt w0 w g A c ps T) : TrieI T ∧ T.length ≤ 2100 := by
  obtain ⟨vW, vK, wv, kv, K, h1, h2, h3, h4⟩ := h
  exact ⟨h3, h4⟩
set_option maxHeartbeats 2000000 in
set_option maxRecDepth 1000000 in
theorem find_calls {w0 : World} (w : World) {g : Nat} {A : Option Addr} {c : Nat} {ps T : List Wd} (h : RefAt w0 w g A c ps T) {B : Option Addr} {d n : Nat} {x : Wd} (hn : n = x.length) (hx : (Kd.int .u8).C w B n x) (hd : n ≤ d) :
    Calls Try.prog 63 #[.pointer (some ⟨g, 0, none⟩), .slice B n d] w fun e w' => e = .returned (.int .i64 (findW T x)) ∧ ∃ q, w' = w.drewN q := by
  subst hn
  have H := Lib.hid h
  have HX := Lib.hid hx
  have HT := Lib.hid h.trie.1
  have hxl : x.length ≤ 9223372036854775807 := hx.2.1
  have hz : Hid (findW T (x.take 0) = 0) := by rw [Hid, List.take_zero]; exact find_zero HT.out
  clear h hx
  go_enter Try.func63, Try.ntmps63
  go_wp2
  go_loopg [5, 6] x.length (fun g1 vs vi wr => ∃ (i : Nat) (z : Int), vs = .int .i64 z ∧ vi = .int .i64 (i : Int) ∧ i ≤ x.length ∧ x.length - i ≤ g1 ∧ Hid (findW T (x.take i) = z) ∧ ∃ q, wr = w.drewN q)
  case atStart => exact ⟨0, 0, rfl, rfl, Nat.zero_le _, Nat.le_refl _, hz, 0, rfl⟩
  case round =>
    clear hz
    obtain ⟨i, z, rfl, rfl, hi, hg1, HZ, q, hw⟩ := hrel
    by_cases hlt : i < x.length
    · have hiz : (i : Int) < (x.length : Int) := by omega
      by_cases h0 : 0 ≤ z
      · obtain ⟨s, rfl⟩ := Int.eq_ofNat_of_zero_le h0
        obtain ⟨hs, hst⟩ := find_step HT.out hlt HZ.out
        obtain ⟨ad, rfl, hcell⟩ := byte_at HX.out hlt
        obtain ⟨b, hb⟩ : ∃ b, x.getD i 0 = b := ⟨_, rfl⟩
        rw [hb] at hcell hst
        have hcell2 : wr.cell? (ad.add i) = some (.int .u8 b) := by rw [hw]; exact hcell
        have KK := kid_calls wr (by rw [hw]; exact H.out.drewN q) hs b
        rw [← hst] at KK
        obtain ⟨z2, hz2⟩ : ∃ z2, findW T (x.take (i + 1)) = z2 := ⟨_, rfl⟩
        rw [hz2] at KK
        have HZ2 := Lib.hid hz2
        have HKK := Lib.hid KK
        have HW := Lib.hid hw
        clear hb hst hs hcell KK hz2 hw HZ
        go_wp2_with fail
        refine HKK.out.mono ?_
        rintro e w2 ⟨rfl, q2, hw2⟩
        have HW2 := Lib.hid hw2
        have hwi : IntKind.i64.wrap ((i : Int) + 1) = (i : Int) + 1 := by rw [IntKind.wrap_i64]; omega
        clear hw2 HKK
        go_wp2
        go_roundg (x.length - (i + 1))
        case measure => omega
        case rel => exact ⟨i + 1, z2, rfl, by go_num, by omega, Nat.le_refl _, HZ2, q + q2, by rw [HW2.out, HW.out]; exact World.drewN_drewN _ _ _⟩
      · have hres := find_miss HT.out (x := x) (i := i) (by rw [HZ.out]; omega)
        have hzz : z = -1 := by
          have h1 := HZ.out
          have := find_bound T (x.take i)
          omega
        subst hzz
        have HR := Lib.hid hres
        have HW := Lib.hid hw
        clear hres hw
        go_wp2
        go_ret
        exact ⟨by rw [HR.out]; rfl, q, HW.out⟩
    · have hiz : ¬ (i : Int) < (x.length : Int) := by omega
      obtain rfl : i = x.length := by omega
      have hres := HZ.out
      rw [List.take_length] at hres
      have HR := Lib.hid hres
      have HW := Lib.hid hw
      clear hres hw HZ
      go_wp2
      go_ret
      exact ⟨by rw [HR.out]; rfl, q, HW.out⟩
set_option maxHeartbeats 2000000 in
set_option maxRecDepth 1000000 in
theorem longest_ctr {w0 : World} (w : World) {g : Nat} {A : Option Addr} {c : Nat} {ps T : List Wd} (h : RefAt w0 w g A c ps T) {B : Option Addr} {d n k0 : Nat} {x : Wd} (hn : n = x.length) (hx : (Kd.int .u8).C w B n x) (hd : n ≤ d) (hk0 : k0 ≤ n) :
    Calls Try.prog 58 #[.pointer (some ⟨g, 0, none⟩), .slice B n d, .int .i64 (k0 : Int)] w fun e w' => e = .returned (.int .i64 ((longT T x k0 : Nat) : Int)) ∧ ∃ q, w' = w.drewN q := by
  subst hn
  have H := Lib.hid h
  have HX := Lib.hid hx
  have HT := Lib.hid h.trie.1
  have hxl : x.length ≤ 9223372036854775807 := hx.2.1
  obtain ⟨R, hR⟩ : ∃ R, longT T x k0 = R := ⟨_, rfl⟩
  rw [hR]
  have HR := Lib.hid hR
  clear h hx hR
  go_enter Try.func58, Try.ntmps58
  go_wp2
  go_loopg [7] x.length (fun g1 vk wr => ∃ k : Nat, vk = .int .i64 (k : Int) ∧ k ≤ x.length ∧ x.length - k ≤ g1 ∧ Hid (longT T x k = R) ∧ ∃ q, wr = w.drewN q)
  case atStart => exact ⟨k0, rfl, hk0, by omega, HR, 0, rfl⟩
  case round =>
    obtain ⟨k, rfl, hk, hg1, HL, q, hw⟩ := hrel
    have hkz : (k : Int) ≤ (x.length : Int) := by omega
    obtain ⟨A', hrun, hrd, hcap⟩ := drop_tx (A := B) (x := x) (c := d) hk hd
    obtain ⟨y, hy⟩ : ∃ y, x.drop k = y := ⟨_, rfl⟩
    rw [hy] at hrun hrd hcap
    have hC : (Kd.int .u8).C wr A' y.length y := by rw [hw]; exact Kd.C_below (hrd w HX.out) (below_drewN' (Below.refl _ _) q)
    have KF := find_calls wr (by rw [hw]; exact H.out.drewN q) rfl hC hcap
    have HY := Lib.hid hy
    have HW := Lib.hid hw
    obtain ⟨z, hz⟩ : ∃ z, findW T y = z := ⟨_, rfl⟩
    rw [hz] at KF
    have HKF := Lib.hid KF
    have HZ := Lib.hid hz
    clear hrd hcap hC KF hz hy hw
    go_wp2_with fail
    refine HKF.out.mono ?_
    rintro e w2 ⟨rfl, q2, hw2⟩
    have HW2 := Lib.hid hw2
    clear hw2 HKF hrun
    by_cases h0 : 0 ≤ z
    · have hres := long_hit (T := T) (x := x) (k := k) (by rw [HY.out, HZ.out]; exact h0)
      rw [HY.out, HZ.out, HL.out] at hres
      have HRES := Lib.hid hres
      clear hres
      go_wp2
      go_ret
      exact ⟨by rw [← HRES.out]; rfl, q + q2, by rw [HW2.out, HW.out]; exact World.drewN_drewN _ _ _⟩
    · obtain ⟨hlt, hst⟩ := long_step HT.out hk (by rw [HY.out, HZ.out]; exact h0)
      rw [HL.out] at hst
      have HST : Hid (longT T x (k + 1) = R) := hst.symm
      have hwk : IntKind.i64.wrap ((k : Int) + 1) = (k : Int) + 1 := by rw [IntKind.wrap_i64]; omega
      clear hst
      go_wp2
      go_roundg (x.length - (k + 1))
      case measure => omega
      case rel => exact ⟨k + 1, by go_num, by omega, Nat.le_refl _, HST, q + q2, by rw [HW2.out, HW.out]; exact World.drewN_drewN _ _ _⟩
set_option maxHeartbeats 2000000 in
set_option maxRecDepth 1000000 in
theorem refIs_calls {w0 : World} (w : World) {g : Nat} {A : Option Addr} {c : Nat} {ps T : List Wd} (h : RefAt w0 w g A c ps T) (s : Int) :
    Calls Try.prog 47 #[.pointer (some ⟨g, 0, none⟩), .int .i64 s] w fun e w' => e = .returned (.bool (isT T s)) ∧ ∃ q, w' = w.drewN q := by
  have hT := h.trie.1.pos
  obtain ⟨vW, vK, wv, kv, K, h1, h2, h3, h4⟩ := h
  obtain ⟨_, cw, _, _⟩ := h1.cells
  obtain ⟨gW, cW, A', c', rfl, _⟩ := h1.wordAt hT
  clear h1 h2 h3
  unfold isT
  go_enter Try.func47, Try.ntmps47
  by_cases h0 : 0 ≤ s
  · by_cases h1 : s < (T.length : Int)
    · rw [decide_eq_true ⟨h0, h1⟩]
      go_wp2
      go_ret
      first | exact ⟨rfl, 0, rfl⟩ | exact ⟨rfl, 1, rfl⟩ | exact ⟨rfl, 2, rfl⟩
    · rw [decide_eq_false (fun h => h1 h.2)]
      go_wp2
      go_ret
      first | exact ⟨rfl, 0, rfl⟩ | exact ⟨rfl, 1, rfl⟩ | exact ⟨rfl, 2, rfl⟩
  · rw [decide_eq_false (fun h => h0 h.1)]
    go_wp2
    go_ret
    first | exact ⟨rfl, 0, rfl⟩ | exact ⟨rfl, 1, rfl⟩ | exact ⟨rfl, 2, rfl⟩
end Go.Proofs.Ytdciniefkodeaaa.PAll
