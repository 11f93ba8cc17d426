/- EntityCapitals: the walk. -/
import Derived.Deep.QuietTactic
import Derived.BigQuiet
import Derived.Lib.Hide
import Derived.Outline
import Derived.Test.YtodidfdfbanliaaQCapHCapP
import Derived.Test.YtodidfdfbanliaaQCapFAwakeE
import Derived.Test.YtodidfdfbanliaaQCapPAllx2
set_option linter.unusedVariables false
set_option linter.unusedSimpArgs false
namespace Go.Proofs.Ytodidfdfbanliaa.PAll
open Go.RowKit Go.Proofs.YtodidfdfbanliaaW.PrintWords Go.Proofs.YtodidfdfbanliaaW.PrintLast Go.Proofs.YtodidfdfbanliaaW.PrintMore
attribute [local go_sem high] eqA71
def capKs : Array Value := #[.string ⟨#[109, 117, 108, 116, 105, 112, 97, 114, 116, 47, 109, 105, 120, 101, 100, 59, 32, 98, 111, 117, 110, 100, 97, 114, 121, 61]⟩, .string ⟨#[109, 101, 115, 115, 97, 103, 101, 47, 114, 102, 99, 56, 50, 50, 59, 32, 120, 61]⟩, .string ⟨#[116, 101, 120, 116, 47, 112, 108, 97, 105, 110, 59, 32, 98, 111, 117, 110, 100, 97, 114, 121, 61]⟩, .string ⟨#[109, 117, 108, 116, 105, 112, 97, 114, 116, 47, 120, 59, 32, 98, 111, 114, 100, 101, 114, 61]⟩]
def capCs : Array Value := #[.string ⟨#[98, 97, 115, 101, 54, 52]⟩, .string ⟨#[113, 117, 111, 116, 101, 100, 45, 112, 114, 105, 110, 116, 97, 98, 108, 101]⟩, .string ⟨#[55, 98, 105, 116]⟩, .string ⟨#[98, 105, 110, 97, 114, 121]⟩, .string ⟨#[120, 45, 111, 116, 104, 101, 114]⟩]
theorem capKs_at (j : Nat) (h : j < 4) : capKs[j]? = some (.string (capK j)) := by
  obtain rfl | rfl | rfl | rfl : j = 0 ∨ j = 1 ∨ j = 2 ∨ j = 3 := by omega
  all_goals rfl
theorem capCs_at (i : Nat) (h : i < 5) : capCs[i]? = some (.string (capC i)) := by
  obtain rfl | rfl | rfl | rfl | rfl : i = 0 ∨ i = 1 ∨ i = 2 ∨ i = 3 ∨ i = 4 := by omega
  all_goals rfl
theorem lit_C (W : World) (a b c d : ByteArray) : Kd.C k42 (W.alloc (.cells #[.string a, .string b, .string c, .string d] 42)) (some ⟨W.heap.size, 0, none⟩) 2 [⟨a, b⟩, ⟨c, d⟩] := by
  refine ⟨rfl, by decide, fun _ => ⟨_, rfl, fun j p hj => ?_⟩⟩
  have hh := heap_alloc_new W (.cells #[.string a, .string b, .string c, .string d] 42)
  match j, hj with
  | 0, hj =>
    obtain rfl : (⟨a, b⟩ : S42) = p := by simpa using hj
    refine ⟨[.string a, .string b], rfl, k42_mk _ _, fun i u hu => ?_⟩
    match i, hu with
    | 0, hu => show World.cell? _ ⟨W.heap.size, 0, none⟩ = _; simp only [World.cell?]; rw [hh]; simpa using hu
    | 1, hu => show World.cell? _ ⟨W.heap.size, 1, none⟩ = _; simp only [World.cell?]; rw [hh]; simpa using hu
    | i + 2, hu => simp at hu
  | 1, hj =>
    obtain rfl : (⟨c, d⟩ : S42) = p := by simpa using hj
    refine ⟨[.string c, .string d], rfl, k42_mk _ _, fun i u hu => ?_⟩
    match i, hu with
    | 0, hu => show World.cell? _ ⟨W.heap.size, 2, none⟩ = _; simp only [World.cell?]; rw [hh]; simpa using hu
    | 1, hu => show World.cell? _ ⟨W.heap.size, 3, none⟩ = _; simp only [World.cell?]; rw [hh]; simpa using hu
    | i + 2, hu => simp at hu
  | j + 2, hj => simp at hj
theorem mixB_size' (a : ByteArray) (l : List Int) : (mixB a l).size = a.size := by
  rw [← toList_size, ← toList_size]; simp [mixB, mixL]
theorem mixed19_is (a : ByteArray) (l : List Int) (ha : a.size ≤ 9223372036854775807) (hl : l.length ≤ 9223372036854775807) (hb : bytesI l) : winklelaw19_mixed.f a l = some (mixB a l) := by
  unfold winklelaw19_mixed.f
  rw [if_pos ⟨ha, hl, by rw [List.all_eq_true]; intro x hx; simpa using hb x hx⟩]
theorem capR_facts (j i : Nat) (hj : j < 4) (b : ByteArray) (r1 r2 : Int) (r3 : ByteArray) (r4 : Int) (h : capR j i b = (r1, r2, r3, r4)) : (j = 0 → i ≠ 4 → r2 = 4 ∧ r3 = b) ∧ (j = 3 → i ≠ 4 → r4 = 32) := by
  refine ⟨?_, ?_⟩
  · rintro rfl hi
    unfold capR at h
    rw [if_neg hi, if_pos rfl] at h
    injection h with _ h; injection h with h1 h; injection h with h2 _
    exact ⟨h1.symm, h2.symm⟩
  · rintro rfl hi
    unfold capR at h
    rw [if_neg hi, if_neg (by decide), if_neg (by decide), if_neg (by decide)] at h
    injection h with _ h; injection h with _ h; injection h with _ h
    exact h.symm
/-- The plan of two fields that lie in a slice just built. -/
theorem plan_lit (W : World) (a b c d : ByteArray) (r1 r2 : Int) (r3 : ByteArray) (r4 : Int) (h : planR [⟨a, b⟩, ⟨c, d⟩] = (r1, r2, r3, r4)) (ha : a.size ≤ 1000) (hb : b.size ≤ 1000) (hc : c.size ≤ 1000) (hd : d.size ≤ 1000) :
    Calls Try.prog 54 #[.slice (some ⟨W.heap.size, 0, none⟩) 2 2] (W.alloc (.cells #[.string a, .string b, .string c, .string d] 42)) fun e w' => e = .returned (.agg #[.int .i64 r1, .int .i64 r2, .string r3, .int .i64 r4]) ∧ Below W.heap.size W w' := by
  obtain ⟨N, hN⟩ := plan_ev [⟨a, b⟩, ⟨c, d⟩] (fun f hf => by simp at hf; rcases hf with rfl | rfl <;> simp <;> omega) (fun f hf => by simp at hf; rcases hf with rfl | rfl <;> simp <;> omega)
  refine (entity_Plan.calls N (some ⟨W.heap.size, 0, none⟩) 2 [⟨a, b⟩, ⟨c, d⟩] r1 r2 r3 r4 _ (lit_C W a b c d) (Nat.le_refl 2) ((hN N (Nat.le_refl _)).trans (by rw [h]))).mono ?_
  rintro e w' ⟨rfl, hb⟩
  exact ⟨rfl, ((Below.refl _ W).alloc (Nat.le_refl _) _).trans (hb.mono (by simp))⟩
theorem awakeE_calls (w : World) : Calls Try.prog 56 #[] w fun e w' => e = .returned (.bool true) ∧ Below w.heap.size w w' :=
  winklelaw19_awake.calls 120 true w (by decide +kernel)
set_option maxHeartbeats 40000000 in
set_option maxRecDepth 100000 in
theorem capitals_walk (x : Int) (j i : Nat) (hj : j < 4) (hi : i < 5) (hx0 : 0 ≤ x) (hx1 : x ≤ 255) (hxj : x % 4 = (j : Int)) (hxi : x / 4 % 5 = (i : Int)) (A1 : Option Addr) (c1 : Nat) (l1 : List Int) (b : ByteArray) (w : World) (hr1 : Kd.C (Kd.int .u8) w A1 l1.length l1) (hc1 : l1.length ≤ c1) (hl : bytesI l1) (hll : l1.length ≤ 9223372036854775807) (hb : b.size ≤ 140737488351232) :
    Calls Try.prog 19 #[.int .u8 x, .slice A1 l1.length c1, .string b] w fun e w' => e = .returned (.bool true) ∧ Below w.heap.size w w' := by
  have HR := Lib.hid hr1
  have HL := Lib.hid hl
  clear hr1 hl
  have HB2 := Lib.hid (show Below w.heap.size w ((w.alloc (.cells capKs 9)).alloc (.cells capCs 9)) from ((Below.refl _ w).alloc (Nat.le_refl _) _).alloc (by simp) _)
  have hk : ((w.alloc (.cells capKs 9)).alloc (.cells capCs 9)).heap[w.heap.size]? = some (.cells capKs 9 (0, 0)) := by rw [Below.heap_alloc _ _ _ (by simp)]; exact heap_alloc_new w _
  have hc : ((w.alloc (.cells capKs 9)).alloc (.cells capCs 9)).heap[w.heap.size + 1]? = some (.cells capCs 9 (0, 0)) := by have := heap_alloc_new (w.alloc (.cells capKs 9)) (.cells capCs 9); simpa using this
  have ck : ((w.alloc (.cells capKs 9)).alloc (.cells capCs 9)).cell? ⟨w.heap.size, j, none⟩ = some (.string (capK j)) := by simp only [World.cell?, hk]; exact capKs_at j hj
  have cc : ((w.alloc (.cells capKs 9)).alloc (.cells capCs 9)).cell? ⟨w.heap.size + 1, i, none⟩ = some (.string (capC i)) := by simp only [World.cell?, hc]; exact capCs_at i hi
  clear hk hc
  have hji : (j : Int) < 4 := by omega
  have hii : (i : Int) < 5 := by omega
  have hj0 : (0 : Int) ≤ (j : Int) := by omega
  have hi0 : (0 : Int) ≤ (i : Int) := by omega
  have hd0 : 0 ≤ x / 4 := by omega
  have hd1 : x / 4 ≤ 63 := by omega
  go_enter Try.func19, Try.ntmps19
  go_wp2_with (fail)
  change Code.wp _ _ _ _ ((w.alloc (.cells capKs 9)).alloc (.cells capCs 9))
  generalize (w.alloc (.cells capKs 9)).alloc (.cells capCs 9) = w2 at *
  go_quiet (fail)
  have HB3 := Lib.hid (pw_below_drewN HB2.out nq)
  clear ck cc HB2
  generalize w2.drewN nq = w3 at *
  go_wp2_with (fail)
  go_loop [11] (fun v => ∃ k : Nat, v = .int .i64 k ∧ k ≤ b.size ∧ Hid (∀ c ∈ b.data.toList.take k, 97 ≤ c ∧ c ≤ 122)) (fun v => b.size - (intOf v).toNat)
  case atStart => exact ⟨0, rfl, by omega, Lib.hid (fun c hc => by simp at hc)⟩
  case round =>
    obtain ⟨k, rfl, hk, HF⟩ := hrel
    by_cases hlt : k < b.size
    · have hk0 : (0 : Int) ≤ (k : Int) := by omega
      have hk1 : (k : Int) < (b.size : Int) := by omega
      have hle : (97 ≤ b[k] ∧ b[k] ≤ 122) ↔ (97 ≤ (b[k].toNat : Int) ∧ (b[k].toNat : Int) ≤ 122) := by
        rw [UInt8.le_iff_toNat_le, UInt8.le_iff_toNat_le]; show (97 ≤ b[k].toNat ∧ b[k].toNat ≤ 122) ↔ _; omega
      have HA := Lib.hid (awakeE_calls w3)
      by_cases q1 : (b[k].toNat : Int) < 97
      · have t1 : decide ((b[k].toNat : Int) < 97) = true := decide_eq_true q1
        clear hle q1
        go_wp2_with (fail)
        refine HA.out.mono ?_
        rintro e w4 ⟨rfl, hb4⟩
        have HB4 := Lib.hid (HB3.out.trans (hb4.mono HB3.out.size))
        clear hb4
        go_wp2
        go_ret
        exact ⟨rfl, HB4.out⟩
      · have t1 : decide ((b[k].toNat : Int) < 97) = false := decide_eq_false q1
        by_cases q2 : (b[k].toNat : Int) > 122
        · have t2 : decide ((b[k].toNat : Int) > 122) = true := decide_eq_true q2
          clear hle q1
          go_wp2_with (fail)
          refine HA.out.mono ?_
          rintro e w4 ⟨rfl, hb4⟩
          have HB4 := Lib.hid (HB3.out.trans (hb4.mono HB3.out.size))
          clear hb4
          go_wp2
          go_ret
          exact ⟨rfl, HB4.out⟩
        · have t2 : decide ((b[k].toNat : Int) > 122) = false := decide_eq_false q2
          have HF2 := Lib.hid (show ∀ c ∈ b.data.toList.take (k + 1), 97 ≤ c ∧ c ≤ 122 from fun c hc => by
            rw [take_snocB b k hlt, List.mem_append, List.mem_singleton] at hc
            rcases hc with hc | rfl
            · exact HF.out c hc
            · exact hle.2 ⟨by omega, by omega⟩)
          have hw1 : IntKind.i64.wrap ((k : Int) + 1) = (k : Int) + 1 := IntWalk.i64_in _ (by omega)
          clear hle
          go_wp2
          go_round
          case rel => exact ⟨k + 1, by go_num, by omega, HF2⟩
          case measure => simp [intOf]; omega
    · have HLt := Lib.hid (show lettersB b from fun c hc => HF.out c (by rw [List.take_of_length_le (by simp; omega)]; exact hc))
      have HA := Lib.hid (awakeE_calls w3)
      by_cases h0 : b.size = 0
      · have e0 : b.toList = [] := by rw [ByteArray.toList_eq]; exact List.eq_nil_of_length_eq_zero (by simpa using h0)
        clear HLt
        go_wp2_with (fail)
        refine HA.out.mono ?_
        rintro e w4 ⟨rfl, hb4⟩
        have HB4 := Lib.hid (HB3.out.trans (hb4.mono HB3.out.size))
        clear hb4
        go_wp2
        go_ret
        exact ⟨rfl, HB4.out⟩
      · have e0 : ¬ b.toList = [] := by rw [ByteArray.toList_eq]; intro e; exact h0 (by rw [← toList_size, e]; rfl)
        by_cases h70 : b.size > 70
        · have t70 : ((b.size : Int) > 70) := by omega
          clear HLt
          go_wp2_with (fail)
          refine HA.out.mono ?_
          rintro e w4 ⟨rfl, hb4⟩
          have HB4 := Lib.hid (HB3.out.trans (hb4.mono HB3.out.size))
          clear hb4
          go_wp2
          go_ret
          exact ⟨rfl, HB4.out⟩
        · have t70 : decide ((b.size : Int) > 70) = false := decide_eq_false (by omega)
          have hks : (capK j).size ≤ 26 := by
            obtain rfl | rfl | rfl | rfl : j = 0 ∨ j = 1 ∨ j = 2 ∨ j = 3 := by omega
            all_goals decide
          have hs1 : (9223372036854775807 < (capK j).size + b.size) = False := eq_false (by omega)
          clear HF
          have e00 : b.toList.isEmpty = false := by rw [Bool.eq_false_iff]; intro e; exact e0 (List.isEmpty_iff.1 e)
          obtain ⟨e1, e2⟩ := cap_both b j i hj hi l1 HLt.out (by omega) (by omega)
          have hcs : (capC i).size ≤ 16 := by
            obtain rfl | rfl | rfl | rfl | rfl : i = 0 ∨ i = 1 ∨ i = 2 ∨ i = 3 ∨ i = 4 := by omega
            all_goals decide
          obtain ⟨r1, r2, r3, r4, hP⟩ : ∃ r1 r2 r3 r4, capR j i b = (r1, r2, r3, r4) := ⟨_, _, _, _, rfl⟩
          have HF := Lib.hid (capR_facts j i hj b r1 r2 r3 r4 hP)
          have HP := Lib.hid (plan_lit w3 TypName (capK j ++ b) EncName (capC i) r1 r2 r3 r4 (e1.trans hP) (by decide) (by rw [ByteArray.size_append]; omega) (by decide) (by omega))
          have HQ := Lib.hid (fun W : World => plan_lit W (mixB typName l1) (mixB (capK j) l1 ++ b) (mixB encName l1) (mixB (capC i) l1) r1 r2 r3 r4 (e2.trans hP) (by rw [mixB_size']; decide) (by rw [ByteArray.size_append, mixB_size']; omega) (by rw [mixB_size']; decide) (by rw [mixB_size']; omega))
          have HM := Lib.hid (fun (a : ByteArray) (ha : a.size ≤ 1000) (W : World) (hW : Below w.heap.size w W) => winklelaw19_mixed.calls a A1 c1 l1 (mixB a l1) W (Kd.C_below HR.out hW) hc1 (mixed19_is a l1 (by omega) hll HL.out))
          have hs2 : (9223372036854775807 < (mixB (capK j) l1).size + b.size) = False := eq_false (by rw [mixB_size']; omega)
          clear hP e1 e2 HLt hs1
          have hs1 : (9223372036854775807 < (capK j).size + b.size) = False := eq_false (by omega)
          have HK := Lib.hid hks
          have HC := Lib.hid hcs
          clear hks hcs HA e0
          go_wp2_with (fail)
          refine HP.out.mono ?_
          rintro e w4 ⟨rfl, hb4⟩
          have HB4 := Lib.hid (HB3.out.trans (hb4.mono HB3.out.size))
          clear hb4 HP
          go_wp2_with (fail)
          have HB5 := Lib.hid (HB4.out.alloc HB4.out.size (.cells #[.int .i64 r1, .int .i64 r2, .string r3, .int .i64 r4] 71))
          have BK5 := Lib.hid (blk_new w4 (.cells #[.int .i64 r1, .int .i64 r2, .string r3, .int .i64 r4] 71))
          have HG := Lib.hid HB4.out.size
          clear HB4
          generalize w4.alloc (.cells #[.int .i64 r1, .int .i64 r2, .string r3, .int .i64 r4] 71) = w5 at *
          generalize w4.heap.size = g at *
          refine (HM.out _ (by decide) w5 HB5.out).mono ?_
          rintro e w6 ⟨rfl, hb⟩
          have HB6 := Lib.hid (HB5.out.trans (hb.mono HB5.out.size))
          have BK6 := Lib.hid (blk_below BK5.out hb)
          clear hb HB5 BK5
          go_wp2_with (fail)
          refine (HM.out _ (by have := HK.out; omega) w6 HB6.out).mono ?_
          rintro e w7 ⟨rfl, hb⟩
          have HB7 := Lib.hid (HB6.out.trans (hb.mono HB6.out.size))
          have BK7 := Lib.hid (blk_below BK6.out hb)
          clear hb HB6 BK6
          go_wp2_with (fail)
          refine (HM.out _ (by decide) w7 HB7.out).mono ?_
          rintro e w8 ⟨rfl, hb⟩
          have HB8 := Lib.hid (HB7.out.trans (hb.mono HB7.out.size))
          have BK8 := Lib.hid (blk_below BK7.out hb)
          clear hb HB7 BK7
          go_wp2_with (fail)
          refine (HM.out _ (by have := HC.out; omega) w8 HB8.out).mono ?_
          rintro e w9 ⟨rfl, hb⟩
          have HB9 := Lib.hid (HB8.out.trans (hb.mono HB8.out.size))
          have BK9 := Lib.hid (blk_below BK8.out hb)
          clear hb HB8 BK8
          go_wp2_with (fail)
          refine (HQ.out w9).mono ?_
          rintro e w10 ⟨rfl, hb⟩
          have HB10 := Lib.hid (HB9.out.trans (hb.mono HB9.out.size))
          have BK10 := Lib.hid (blk_below BK9.out hb)
          clear hb HB9 BK9
          have z0 : w10.cell? ⟨g, 0, none⟩ = some (.int .i64 r1) := (blk_cell BK10.out 0).trans rfl
          have z1 : w10.cell? ⟨g, 1, none⟩ = some (.int .i64 r2) := (blk_cell BK10.out 1).trans rfl
          have z2 : w10.cell? ⟨g, 2, none⟩ = some (.string r3) := (blk_cell BK10.out 2).trans rfl
          have z3 : w10.cell? ⟨g, 3, none⟩ = some (.int .i64 r4) := (blk_cell BK10.out 3).trans rfl
          have f0 := blk_frozen BK10.out 0
          have f1 := blk_frozen BK10.out 1
          have f2 := blk_frozen BK10.out 2
          have f3 := blk_frozen BK10.out 3
          have hgl : g < w10.heap.size := blk_lt BK10.out
          have HA := Lib.hid (fun (W : World) (hW : Below w.heap.size w W) => (awakeE_calls W).mono (fun e w' (h : e = .returned (.bool true) ∧ Below W.heap.size W w') => (⟨h.1, hW.trans (h.2.mono hW.size)⟩ : e = .returned (.bool true) ∧ Below w.heap.size w w')))
          clear HM HQ HR HL hs1 hs2 HB3 HK HC
          have hq : i = 4 → (capC i).toList = [120, 45, 111, 116, 104, 101, 114] := by rintro rfl; rw [ByteArray.toList_eq]; rfl
          by_cases q : (capC i).toList = [120, 45, 111, 116, 104, 101, 114]
          · by_cases j0 : j = 0
            · subst j0
              clear HF hq
              go_wp2_with (fail)
              ·refine (HA.out _ (HB10.out.alloc HB10.out.size _)).mono ?_
               rintro e w12 ⟨rfl, hb12⟩
               have HB12 := Lib.hid hb12
               clear hb12
               go_wp2
               go_ret
               exact ⟨rfl, HB12.out⟩
            · by_cases j3 : (j : Int) = 3
              · clear HF hq
                go_wp2_with (fail)
                ·refine (HA.out _ (HB10.out.alloc HB10.out.size _)).mono ?_
                 rintro e w12 ⟨rfl, hb12⟩
                 have HB12 := Lib.hid hb12
                 clear hb12
                 go_wp2
                 go_ret
                 exact ⟨rfl, HB12.out⟩
              · clear HF hq
                go_wp2_with (fail)
                ·refine (HA.out _ (HB10.out.alloc HB10.out.size _)).mono ?_
                 rintro e w12 ⟨rfl, hb12⟩
                 have HB12 := Lib.hid hb12
                 clear hb12
                 go_wp2
                 go_ret
                 exact ⟨rfl, HB12.out⟩
          · have hi4 : i ≠ 4 := fun e => q (hq e)
            by_cases j0 : j = 0
            · subst j0
              obtain ⟨rfl, rfl⟩ := HF.out.1 rfl hi4
              clear HF hq
              go_wp2_with (fail)
              ·refine (HA.out _ (HB10.out.alloc HB10.out.size _)).mono ?_
               rintro e w12 ⟨rfl, hb12⟩
               have HB12 := Lib.hid hb12
               clear hb12
               go_wp2
               go_ret
               exact ⟨rfl, HB12.out⟩
            · by_cases j3 : (j : Int) = 3
              · obtain rfl := HF.out.2 (by omega) hi4
                clear HF hq
                go_wp2_with (fail)
                ·refine (HA.out _ (HB10.out.alloc HB10.out.size _)).mono ?_
                 rintro e w12 ⟨rfl, hb12⟩
                 have HB12 := Lib.hid hb12
                 clear hb12
                 go_wp2
                 go_ret
                 exact ⟨rfl, HB12.out⟩
              · clear HF hq
                go_wp2_with (fail)
                ·refine (HA.out _ (HB10.out.alloc HB10.out.size _)).mono ?_
                 rintro e w12 ⟨rfl, hb12⟩
                 have HB12 := Lib.hid hb12
                 clear hb12
                 go_wp2
                 go_ret
                 exact ⟨rfl, HB12.out⟩
end Go.Proofs.Ytodidfdfbanliaa.PAll
