/- header.Trim answers the text without the blanks at both its ends (trimB), and turns nothing that was there. -/
import Derived.Lib.OthersKept
import Derived.Laws.RangeAny
import Derived.Outline
import Derived.Lib.Hide
import Derived.Test.YtodidfdfbanliaaQStpPAllx0
import Derived.Test.YtodidfdfbanliaaQStpFHead
import Derived.Test.YtodidfdfbanliaaQStpHTrimP
set_option linter.unusedVariables false
namespace Go.Proofs.Ytodidfdfbanliaa.PAll
open Go.RowKit Go.Proofs.YtodidfdfbanliaaW.PrintWords Go.Proofs.YtodidfdfbanliaaW.PrintLast
def header_Trim.f (a0 : ByteArray) : Option (ByteArray) := if a0.size ≤ 9223372036854775807 then some (trimB a0) else none
/-- Of a rune that is no blank, the byte at hand is no blank. -/
theorem decode_bl (s : ByteArray) (pos : Nat) (h : pos < s.size) : (((Utf8.decode s pos).1 = 9 ∨ (Utf8.decode s pos).1 = 32) ∧ isBl s[pos] = true ∧ (Utf8.decode s pos).2 = 1) ∨ ((Utf8.decode s pos).1 ≠ 9 ∧ (Utf8.decode s pos).1 ≠ 32 ∧ isBl s[pos] = false) := by
  have key : ∀ c : UInt8, isBl c = true ↔ (c.toNat = 9 ∨ c.toNat = 32) := by
    intro c; simp [isBl, ← UInt8.toNat_inj]
  by_cases ha : (s[pos]'h).toNat < 128
  · rw [decode_ascii s pos h ha]
    by_cases hb : (s[pos]'h).toNat = 9 ∨ (s[pos]'h).toNat = 32
    · exact .inl ⟨hb, (key _).2 hb, rfl⟩
    · refine .inr ⟨fun e => hb (.inl e), fun e => hb (.inr e), ?_⟩
      rw [← Bool.not_eq_true, key]; exact hb
  · have hd := decode_high s pos h (by omega)
    refine .inr ⟨by omega, by omega, ?_⟩
    rw [← Bool.not_eq_true, key]; omega
def FromAt (s : ByteArray) (v : Value) : Prop := ∃ n : Nat, v = .int .i64 n ∧ n ≤ s.size ∧ s.data.toList.dropWhile isBl = s.data.toList.drop n
theorem trim_step {s : ByteArray} {pos : Nat} {hp : pos < s.size} (h : ∀ i (hi : i < s.size), i < pos → isBl s[i] = true) (hb : isBl s[pos] = true) : ∀ i (hi : i < s.size), i < pos + 1 → isBl s[i] = true := by
  intro i hi h1
  rcases Nat.lt_or_ge i pos with h2 | h2
  · exact h i hi h2
  · obtain rfl : i = pos := by omega
    exact hb
theorem trim_found (s : ByteArray) (pos : Nat) (hp : pos ≤ s.size) (h : ∀ i (hi : i < s.size), i < pos → isBl s[i] = true) (hb : ∀ hp : pos < s.size, isBl s[pos] = false) : FromAt s (.int .i64 pos) :=
  ⟨pos, rfl, hp, dropWhile_at _ _ (by simpa using hp) (fun i hi h1 => h i (by simpa using hi) h1) (fun hn => hb (by simpa using hn))⟩
theorem trim_start {s : ByteArray} {n : Nat} (h : s.data.toList.dropWhile isBl = s.data.toList.drop n) : rtrimL (s.extract n s.size).data.toList = trimL s.data.toList := by
  rw [trimL, h, extract_toList, List.take_of_length_le (by simp)]
theorem trim_empty {s t : ByteArray} (h : rtrimL t.data.toList = trimL s.data.toList) (h0 : t.size = 0) : t = trimB s := by
  have : t.data.toList = [] := by
    have : t.data.toList.length = 0 := by simpa using h0
    exact List.eq_nil_of_length_eq_zero this
  rw [this, rtrimL_nil] at h
  apply ext_toList; rw [trimB, ← h, this]
theorem toList_snoc (t : ByteArray) (h0 : t.size ≠ 0) : t.data.toList = (t.extract 0 (t.size - 1)).data.toList ++ [t[t.size - 1]'(by omega)] := by
  rw [extract_toList, List.drop_zero, getElem_toList]
  have hl : t.data.toList.length = t.size := by simp
  have e : t.data.toList.take (t.size - 1 + 1) = t.data.toList.take (t.size - 1) ++ [t.data.toList[t.size - 1]'(by omega)] := List.take_succ_eq_append_getElem (by omega)
  rw [← e, List.take_of_length_le (by omega)]
theorem trim_last {s t : ByteArray} (h : rtrimL t.data.toList = trimL s.data.toList) (h0 : t.size ≠ 0) (hb : isBl (t[t.size - 1]'(by omega)) = true) : rtrimL (t.extract 0 (t.size - 1)).data.toList = trimL s.data.toList := by
  rw [← h, toList_snoc t h0, rtrimL_snoc_bl _ _ hb]
theorem trim_done {s t : ByteArray} (h : rtrimL t.data.toList = trimL s.data.toList) (h0 : t.size ≠ 0) (hb : isBl (t[t.size - 1]'(by omega)) = false) : t = trimB s := by
  rw [toList_snoc t h0, rtrimL_snoc_no _ _ hb, ← toList_snoc t h0] at h
  apply ext_toList; rw [trimB, ← h]
theorem blank_is (c : UInt8) : header_blank.f (c.toNat : Int) = some (isBl c) := by
  unfold header_blank.f isBl
  split
  · rename_i h; have : c = 9 := by rw [← UInt8.toNat_inj]; show c.toNat = 9; omega
    subst this; rfl
  · rename_i h
    have h9 : (c == 9) = false := by rw [beq_eq_false_iff_ne]; rintro rfl; exact h rfl
    rw [h9, Bool.false_or]
    congr 1
    rw [Bool.eq_iff_iff]; simp only [beq_iff_eq, ← UInt8.toNat_inj]
    show (c.toNat : Int) = 32 ↔ c.toNat = 32
    omega
set_option maxHeartbeats 1000000 in
set_option maxRecDepth 100000 in
theorem header_Trim.calls (a0 : ByteArray) (r : ByteArray) (w : World) (h : header_Trim.f a0 = some r) :
    Calls Try.prog 29 #[.string a0] w fun e w' => e = .returned (.string r) ∧ Below w.heap.size w w' := by
  unfold header_Trim.f at h
  split at h
  case isFalse => cases h
  case isTrue hsz =>
  obtain rfl := Option.some.inj h
  clear h
  go_enter Try.func29, Try.ntmps29
  go_upto_block 0 with (fail)
  go_cut [3] (fun v wc => Hid (FromAt a0 v) ∧ Below w.heap.size w wc)
  case first =>
    go_wp2
    go_loopw [3] (fun v wr => ∃ pos : Nat, v = .int .i64 (a0.size : Int) ∧ pos ≤ a0.size ∧ Hid (∀ i (hi : i < a0.size), i < pos → isBl a0[i] = true) ∧ wr.heap[w.heap.size]? = some (.stringIter a0 pos) ∧ Below w.heap.size w wr) (fun v wr => a0.size - wr.iterPos w.heap.size)
    case atStart =>
      refine ⟨0, rfl, by omega, fun i hi h => by omega, World.iter_heap w a0 0, (Below.refl _ w).alloc (Nat.le_refl _) _⟩
    case round =>
      obtain ⟨pos, rfl, hp0, HB, hit, hbw⟩ := hrel
      by_cases hp : pos < a0.size
      · have hnx : ∀ ty, (Instr.next (.pointer (some ⟨w.heap.size, 0, none⟩)) true ty).run Try.prog wr = _ := fun ty => Lib.run_next_any_at wr w.heap.size a0 pos ty hit hp
        have hit2 := Lib.iterAt_heap wr w.heap.size a0 pos (pos + (Utf8.decode a0 pos).2) hit
        have hbw2 := Lib.below_iterAt hbw (k := w.heap.size) (Nat.le_refl _) a0 (pos + (Utf8.decode a0 pos).2)
        rcases decode_bl a0 pos hp with ⟨hc, hb, h1⟩ | ⟨hc9, hc32, hb⟩
        · have HC := Lib.hid h1
          have HX := Lib.hid hb
          simp only [h1] at hnx hit2 hbw2
          have HI := Lib.hid hit
          clear h1 hb hit
          rcases hc with hc | hc
          · have t9 : (((Utf8.decode a0 pos).1 : Int) != 9) = false := by rw [bne_eq_false_iff_eq]; omega
            clear hc
            go_wp2
            go_roundw
            case rel => exact ⟨pos + 1, rfl, by omega, trim_step HB.out HX.out, hit2, hbw2⟩
            case measure =>
              have hI := HI.out
              simp only [World.iterPos, hit2, hI]
              omega
          · have t9 : (((Utf8.decode a0 pos).1 : Int) != 9) = true := by rw [bne_iff_ne]; omega
            have t32 : (((Utf8.decode a0 pos).1 : Int) != 32) = false := by rw [bne_eq_false_iff_eq]; omega
            clear hc
            go_wp2
            go_roundw
            case rel => exact ⟨pos + 1, rfl, by omega, trim_step HB.out HX.out, hit2, hbw2⟩
            case measure =>
              have hI := HI.out
              simp only [World.iterPos, hit2, hI]
              omega
        · have t9 : (((Utf8.decode a0 pos).1 : Int) != 9) = true := by rw [bne_iff_ne]; omega
          have t32 : (((Utf8.decode a0 pos).1 : Int) != 32) = true := by rw [bne_iff_ne]; omega
          go_wp2
          go_meet
          case rel => exact ⟨trim_found a0 pos (by omega) HB.out (fun _ => hb), hbw2⟩
      · have hnx : ∀ ty, (Instr.next (.pointer (some ⟨w.heap.size, 0, none⟩)) true ty).run Try.prog wr = _ := fun ty => Lib.run_next_end_at wr w.heap.size a0 pos ty hit hp
        go_wp2
        go_meet
        case rel => exact ⟨trim_found a0 a0.size (by omega) (fun i hi h => HB.out i hi (by omega)) (fun h => by omega), hbw⟩
  case rest =>
    obtain ⟨HF, hbw⟩ := hcut
    obtain ⟨n, rfl, hn, hd⟩ := HF.out
    clear HF
    have HD := Lib.hid hd
    clear hd
    go_wp2
    go_loopg [0] (a0.size + 1) (fun gk v wr => ∃ t : ByteArray, v = .string t ∧ Hid (rtrimL t.data.toList = trimL a0.data.toList) ∧ t.size < gk ∧ t.size ≤ a0.size ∧ Below w.heap.size w wr)
    case atStart => exact ⟨a0.extract n a0.size, rfl, trim_start HD.out, by simp; omega, by simp, hbw⟩
    case round =>
      clear hbw
      obtain ⟨t, rfl, HT, hk, hts, hbw⟩ := hrel
      by_cases h0 : t.size = 0
      · have c1 : decide (0 < (t.size : Int)) = false := decide_eq_false (by omega)
        have HR := Lib.hid (trim_empty HT.out h0)
        clear h0
        go_wp2_with (fail)
        · exact absurd (of_decide_eq_false c1) (by omega)
        · go_ret
          exact ⟨congrArg (fun x => Ending.returned (Value.string x)) HR.out, hbw⟩
      · have c1 : decide (0 < (t.size : Int)) = true := decide_eq_true (by omega)
        have c2 : 1 ≤ (t.size : Int) ∧ (t.size : Int) - 1 < (t.size : Int) := by omega
        by_cases hb : isBl (t[t.size - 1]'(by omega)) = true
        · have hbf : header_blank.f ((t[t.size - 1]'(by omega)).toNat : Int) = some true := by rw [blank_is, hb]
          have HN := Lib.hid (trim_last HT.out h0 hb)
          have HS : (t.extract 0 (t.size - 1)).size < gk - 1 := by simp; omega
          clear hb h0
          go_wp2_with (go_at_call 64; refine (header_blank.calls _ true _ hbf).mono ?_; rintro e w' ⟨rfl, ⟨nd, rfl⟩⟩)
          go_roundg (gk - 1)
          case measure => omega
          case rel => exact ⟨_, rfl, HN, by simp; omega, by simp; omega, pw_below_drewN hbw _⟩
        · have hb' : isBl (t[t.size - 1]'(by omega)) = false := by simpa using hb
          have hbf : header_blank.f ((t[t.size - 1]'(by omega)).toNat : Int) = some false := by rw [blank_is, hb']
          have HR := Lib.hid (trim_done HT.out h0 hb')
          clear hb hb' h0
          go_wp2_with (go_at_call 64; refine (header_blank.calls _ false _ hbf).mono ?_; rintro e w' ⟨rfl, ⟨nd, rfl⟩⟩)
          go_ret
          exact ⟨congrArg (fun x => Ending.returned (Value.string x)) HR.out, pw_below_drewN hbw _⟩
end Go.Proofs.Ytodidfdfbanliaa.PAll
