/- mixed answers a word with some capital letters (mixB), and turns nothing that was there. -/
import Derived.Lib.Hide
import Derived.Test.YtodidfdfbanliaaQCapHBytes
import Derived.Test.YtodidfdfbanliaaQCapHSem1
set_option linter.unusedVariables false
namespace Go.Proofs.Ytodidfdfbanliaa.PAll
open Go.RowKit Go.Proofs.YtodidfdfbanliaaW.PrintWords Go.Proofs.YtodidfdfbanliaaW.PrintLast Go.Proofs.YtodidfdfbanliaaW.PrintMore
/-- Is the letter at place i to be a capital one? -/
def capAt (l : List Int) (i : Nat) : Bool := decide (0 < l.length) && decide (rd l ((i : Int) % (l.length : Int)) % 2 = 1)
def mixC (l : List Int) (i : Nat) (c : UInt8) : UInt8 := if capAt l i = true ∧ 97 ≤ c ∧ c ≤ 122 then c - 32 else c
def mixL (s : List UInt8) (l : List Int) : List UInt8 := s.mapIdx fun i c => mixC l i c
def mixB (s : ByteArray) (l : List Int) : ByteArray := ⟨(mixL s.data.toList l).toArray⟩
/-- Mixed up to place k. -/
def mixTo (s : List UInt8) (l : List Int) (k : Nat) : List UInt8 := s.mapIdx fun i c => if i < k then mixC l i c else c
theorem mixTo_zero (s : List UInt8) (l : List Int) : mixTo s l 0 = s := by
  unfold mixTo; apply List.ext_getElem <;> simp
theorem mixTo_all (s : List UInt8) (l : List Int) (k : Nat) (h : s.length ≤ k) : mixTo s l k = mixL s l := by
  unfold mixTo mixL; apply List.ext_getElem
  · simp
  · intro i h1 h2
    have : i < k := by simp at h1; omega
    simp [this]
theorem mixTo_length (s : List UInt8) (l : List Int) (k : Nat) : (mixTo s l k).length = s.length := by simp [mixTo]
theorem mixTo_at (s : List UInt8) (l : List Int) (k : Nat) (h : k < s.length) : (mixTo s l k)[k]'(by rw [mixTo_length]; exact h) = s[k] := by simp [mixTo]
theorem mixTo_set (s : List UInt8) (l : List Int) (k : Nat) (h : k < s.length) : (mixTo s l k).set k (mixC l k s[k]) = mixTo s l (k + 1) := by
  apply List.ext_getElem
  · simp [mixTo]
  · intro i h1 h2
    by_cases e : k = i
    · subst e; simp [mixTo]
    · simp only [mixTo, List.getElem_set, e, if_false, List.getElem_mapIdx]
      have : (i < k) ↔ (i < k + 1) := by omega
      simp only [this]
theorem mixTo_keep (s : List UInt8) (l : List Int) (k : Nat) (h : k < s.length) (hm : mixC l k s[k] = s[k]) : mixTo s l k = mixTo s l (k + 1) := by
  rw [← mixTo_set s l k h, hm, ← mixTo_at s l k h]; simp
theorem mixC_yes (l : List Int) (i : Nat) (c : UInt8) (h : capAt l i = true) (h1 : 97 ≤ (c.toNat : Int)) (h2 : (c.toNat : Int) ≤ 122) : ((mixC l i c).toNat : Int) = (c.toNat : Int) - 32 := by
  have e : 97 ≤ c ∧ c ≤ 122 := by rw [UInt8.le_iff_toNat_le, UInt8.le_iff_toNat_le]; show 97 ≤ c.toNat ∧ c.toNat ≤ 122; omega
  unfold mixC; rw [if_pos ⟨h, e⟩, UInt8.toNat_sub_of_le]
  · show ((c.toNat - 32 : Nat) : Int) = _; omega
  · rw [UInt8.le_iff_toNat_le]; show 32 ≤ c.toNat; omega
theorem mixC_no (l : List Int) (i : Nat) (c : UInt8) (h : ¬ (capAt l i = true ∧ 97 ≤ (c.toNat : Int) ∧ (c.toNat : Int) ≤ 122)) : mixC l i c = c := by
  have e : ¬ (capAt l i = true ∧ 97 ≤ c ∧ c ≤ 122) := by
    rw [UInt8.le_iff_toNat_le, UInt8.le_iff_toNat_le]; intro k; apply h; refine ⟨k.1, ?_, ?_⟩
    · have : 97 ≤ c.toNat := k.2.1; omega
    · have : c.toNat ≤ 122 := k.2.2; omega
  unfold mixC; rw [if_neg e]
theorem rd_byte {l : List Int} (h : (l.all fun x => decide (0 ≤ x ∧ x ≤ 255)) = true) {i : Int} (h0 : 0 < l.length) (hi : i < l.length) (hp : 0 ≤ i) : 0 ≤ rd l i ∧ rd l i ≤ 255 := by
  have hlt : i.toNat < l.length := by omega
  have := List.all_eq_true.1 h (l[i.toNat]) (List.getElem_mem hlt)
  have e : rd l i = l[i.toNat] := by simp [rd, List.getD_eq_getElem?_getD, hlt]
  rw [e]; exact of_decide_eq_true this
def winklelaw19_mixed.f (a0 : ByteArray) (l1 : List Int) : Option (ByteArray) := if a0.size ≤ 9223372036854775807 ∧ l1.length ≤ 9223372036854775807 ∧ (l1.all fun x => decide (0 ≤ x ∧ x ≤ 255)) = true then some (mixB a0 l1) else none
set_option maxHeartbeats 1000000 in
set_option maxRecDepth 100000 in
theorem winklelaw19_mixed.calls (a0 : ByteArray) (A1 : Option Addr) (c1 : Nat) (l1 : List Int) (r : ByteArray) (w : World) (hr1 : Kd.C (Kd.int .u8) w A1 l1.length l1) (hc1 : l1.length ≤ c1) (h : winklelaw19_mixed.f a0 l1 = some r) :
    Calls Try.prog 57 #[.string a0, .slice A1 l1.length c1] w fun e w' => e = .returned (.string r) ∧ Below w.heap.size w w' := by
  unfold winklelaw19_mixed.f at h
  split at h
  case isFalse => cases h
  case isTrue hs =>
  obtain rfl := Option.some.inj h
  obtain ⟨hsz, hlz, hby⟩ := hs
  clear h
  have HR := Aside0.mk hr1
  clear hr1
  have HY := Lib.hid hby
  clear hby
  have hcv := Lib.run_convert_string_bytes (P := Try.prog) w 9 22 5 a0 Try.underlying9 Try.underlying22 Try.underlying5
  have HM := Lib.hid (BytesAt.made w a0 (grownCap_ge w a0.size 0 5))
  have HB := Lib.hid (below_bytes w a0)
  generalize grownCap w a0.size 0 5 = cap at *
  generalize Lib.bytesWorld w 5 a0 = w1 at *
  go_enter Try.func57, Try.ntmps57
  go_wp2
  go_loopw [6] (fun v wr => ∃ k : Nat, v = .int .i64 k ∧ k ≤ a0.size ∧ Hid (BytesAt wr w.heap.size cap (mixTo a0.data.toList l1 k)) ∧ Below w.heap.size w wr) (fun v wr => a0.size - (intOf v).toNat)
  case atStart => exact ⟨0, rfl, by omega, by rw [mixTo_zero]; exact HM.out, HB.out⟩
  case round =>
    clear hcv
    obtain ⟨k, rfl, hk, HT, hbw⟩ := hrel
    by_cases hlt : k < a0.size
    · have hlen : k < (mixTo a0.data.toList l1 k).length := by rw [mixTo_length]; simpa using hlt
      have hcell := HT.out.cell k hlen
      have hfr := HT.out.frozen k hlen
      rw [mixTo_at _ _ _ (by simpa using hlt)] at hcell
      clear hlen
      have hk2 : k < a0.data.toList.length := by simpa using hlt
      have HN := Lib.hid (fun h => mixTo_keep a0.data.toList l1 k hk2 (mixC_no l1 k _ h))
      have HSET := Lib.hid (fun u => (HT.out.set k (by rw [mixTo_length]; exact hk2) u))
      have HMS := Lib.hid (mixTo_set a0.data.toList l1 k hk2)
      generalize a0.data.toList[k]'hk2 = c at *
      by_cases h0 : 0 < l1.length
      · have hp : 0 ≤ (k : Int) % (l1.length : Int) := Int.emod_nonneg _ (by omega)
        have hq : (k : Int) % (l1.length : Int) < (l1.length : Int) := Int.emod_lt_of_pos _ (by omega)
        obtain ⟨ad, rfl, hx0⟩ := Kd.at_int HR.out ((k : Int) % (l1.length : Int)) hp hq
        have hx := (hbw.cell (World.block_lt_of_cell? w _ hx0)).trans hx0
        rw [show ((k : Int) % (l1.length : Int)).toNat = k % l1.length from by rw [← Int.natCast_emod]; rfl] at hx
        clear hx0
        have hb := rd_byte HY.out h0 hq hp
        obtain ⟨hb0, hb1⟩ := hb
        by_cases hodd : rd l1 ((k : Int) % (l1.length : Int)) % 2 = 1
        · have HC := Lib.hid (show capAt l1 k = true by simp [capAt, h0, hodd])
          have c1 : (rd l1 ((k : Int) % (l1.length : Int)) % 2 == 1) = true := beq_iff_eq.2 hodd
          clear hodd
          generalize rd l1 ((k : Int) % (l1.length : Int)) = x at *
          by_cases h1 : 97 ≤ (c.toNat : Int)
          · by_cases h2 : (c.toNat : Int) ≤ 122
            · have HV := Lib.hid (mixC_yes l1 k c HC.out h1 h2)
              have HW := Lib.hid (HSET.out (mixC l1 k c))
              rw [HMS.out, HV.out] at HW
              go_wp2
              go_roundw
              case rel => exact ⟨k + 1, by go_num, by omega, HW, hbw.setCell (p := ⟨w.heap.size, k, none⟩) (Nat.le_refl _) _⟩
              case measure => simp [intOf]; omega
            · have HK := Lib.hid (HN.out (fun h => h2 h.2.2))
              go_wp2
              go_roundw
              case rel => exact ⟨k + 1, by go_num, by omega, by rw [← HK.out]; exact HT.out, hbw⟩
              case measure => simp [intOf]; omega
          · have HK := Lib.hid (HN.out (fun h => h1 h.2.1))
            go_wp2
            go_roundw
            case rel => exact ⟨k + 1, by go_num, by omega, by rw [← HK.out]; exact HT.out, hbw⟩
            case measure => simp [intOf]; omega
        · have HK := Lib.hid (HN.out (fun h => hodd (by have := h.1; simp [capAt, h0] at this; exact this)))
          have c1 : (rd l1 ((k : Int) % (l1.length : Int)) % 2 == 1) = false := beq_eq_false_iff_ne.2 hodd
          clear hodd
          generalize rd l1 ((k : Int) % (l1.length : Int)) = x at *
          go_wp2
          go_roundw
          case rel => exact ⟨k + 1, by go_num, by omega, by rw [← HK.out]; exact HT.out, hbw⟩
          case measure => simp [intOf]; omega
      · have HK := Lib.hid (HN.out (fun h => by have := h.1; simp [capAt] at this; omega))
        go_wp2
        go_roundw
        case rel => exact ⟨k + 1, by go_num, by omega, by rw [← HK.out]; exact HT.out, hbw⟩
        case measure => simp [intOf]; omega
    · have HE := Lib.hid (mixTo_all a0.data.toList l1 k (by simp; omega))
      have hr := HT.out.reads (by rw [mixTo_length]; simpa using hsz)
      rw [mixTo_length] at hr
      have hcs := Kd.C_string (P := Try.prog) (A := some ⟨w.heap.size, 0, none⟩) (c := cap) Try.underlying22 Try.underlying5 Try.underlying9 hr
      rw [HE.out, strOfNums_map, show a0.data.toList.length = a0.size by simp] at hcs
      have HQ := Lib.hid (show (⟨(mixL a0.data.toList l1).toArray⟩ : ByteArray) = mixB a0 l1 from rfl)
      rw [HQ.out] at hcs
      clear hr
      go_wp2
      go_ret
      exact ⟨rfl, hbw⟩
end Go.Proofs.Ytodidfdfbanliaa.PAll
