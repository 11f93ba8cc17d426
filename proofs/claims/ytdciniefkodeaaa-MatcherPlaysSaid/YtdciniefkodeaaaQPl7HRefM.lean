/- The reference's machine in memory: what holds, what keeps it; kid, find, longest, Is. -/
import Derived.Test.YtdciniefkodeaaaQPl7HWords6
import Derived.Test.YtdciniefkodeaaaQPl7HRefP
set_option linter.unusedVariables false
set_option linter.unusedSimpArgs false
namespace Go.Proofs.Ytdciniefkodeaaa.PAll
open Go.Sort Go.RowKit Go.Proofs.YtdciniefkodeaaaW.PrintWords Go.Proofs.YtdciniefkodeaaaW.PrintLast Go.Proofs.YtdciniefkodeaaaW.PrintMore
theorem drop_tx {A : Option Addr} {x : Wd} {c lo : Nat} (h1 : lo ≤ x.length) (h3 : x.length ≤ c) : ∃ A' : Option Addr, (∀ W : World, (Instr.slice 32 (.slice A x.length c) (some (.int .i64 (lo : Int))) none none).run Try.prog W = .ok (.slice A' (x.drop lo).length (c - lo)) W) ∧
    (∀ W : World, (Kd.int .u8).C W A x.length x → (Kd.int .u8).C W A' (x.drop lo).length (x.drop lo)) ∧ (x.drop lo).length ≤ c - lo := by
  obtain ⟨i0, hi0, _, hsz, _⟩ := info_parts info5
  obtain ⟨A', q1, q2, q3⟩ := print_drop_of (P := Try.prog) (Value.int .u8) (0 : Int) 32 5 .i64 Try.underlying32 hi0 hsz A c x (lo : Int) (by omega) (by omega) h3
  rw [Int.toNat_natCast] at q1 q2 q3
  exact ⟨A', q1, fun W h => Kd.C_of_reads (h1 := fun _ => rfl) (q2 W (Kd.reads_of_C h)), q3⟩
end Go.Proofs.Ytdciniefkodeaaa.PAll
set_option linter.unusedVariables false
set_option linter.unusedSimpArgs false
namespace Go.Proofs.Ytdciniefkodeaaa.PAll
open Go.Sort Go.RowKit Go.Proofs.YtdciniefkodeaaaW.PrintWords Go.Proofs.YtdciniefkodeaaaW.PrintLast Go.Proofs.YtdciniefkodeaaaW.PrintMore
def kidC (b t : Int) : List Value := [.int .u8 b, .int .i64 t]
def flatK (ks : List (Int × Int)) : List Value := ks.flatMap fun h => kidC h.1 h.2
theorem flatK_snoc (ks : List (Int × Int)) (b t : Int) : flatK (ks ++ [(b, t)]) = flatK ks ++ kidC b t := by unfold flatK; rw [List.flatMap_append]; rfl
theorem flatK_get : ∀ (ks : List (Int × Int)) (i j : Nat) (h : Int × Int), ks[i]? = some h → j < 2 → (flatK ks)[i * 2 + j]? = (kidC h.1 h.2)[j]?
  | [], i, j, h, hh, _ => by simp at hh
  | y :: l, 0, j, h, hh, hj => by
    obtain rfl : y = h := by simpa using hh
    rw [Nat.zero_mul, Nat.zero_add]
    match j, hj with
    | 0, _ => rfl
    | 1, _ => rfl
  | y :: l, i + 1, j, h, hh, hj => by
    show (kidC y.1 y.2 ++ flatK l)[(i + 1) * 2 + j]? = _
    rw [List.getElem?_append_right (by show 2 ≤ _; omega), show (i + 1) * 2 + j - (kidC y.1 y.2).length = i * 2 + j from by show (i + 1) * 2 + j - 2 = _; omega]
    exact flatK_get l i j h (by simpa using hh) hj
/-- A row of one's own that is not empty: its cells. -/
theorem own_at {w : World} {base : Nat} {e : TypeId} {size n : Nat} {v : Value} {xs : List Value} (h : w.ownsRow base e size v n xs) (hn : 0 < n) : ∃ g c, v = .slice (some ⟨g, 0, none⟩) n c ∧ base ≤ g ∧ (∃ cells, w.heap[g]? = some (.cells cells e (0, 0))) ∧ n ≤ c ∧ ∀ j, j < n * size → w.cell? ⟨g, j, none⟩ = xs[j]? := by
  have h' := h
  rcases h'.2 with ⟨_, h0⟩ | ⟨g, cap, cur, rfl, hb, hg, hnc, _⟩
  · omega
  · exact ⟨g, cap, rfl, hb, ⟨cur, hg⟩, hnc, fun j hj => h.cellAt j hj⟩
structure RefRaw (w0 w : World) (g : Nat) (A : Option Addr) (n c : Nat) (vW vK : Value) (wv kv : List Value) (T : List Wd) (K : List (List (Int × Int))) : Prop where
  below : Below w0.heap.size w0 w
  gb : w0.heap.size ≤ g
  blk : w.heap[g]? = some (.cells #[.slice A n c, vW, vK] 57 (0, 0))
  wl : wv.length = T.length
  wown : w.ownsRow w0.heap.size 32 1 vW T.length wv
  word : ∀ s, s < T.length → ∃ A' c', wv.getD s undef = .slice A' (T.getD s []).length c' ∧ (T.getD s []).length ≤ c' ∧ (Kd.int .u8).C w0 A' (T.getD s []).length (T.getD s [])
  kl : kv.length = K.length
  kown : w.ownsRow w0.heap.size 92 1 vK K.length kv
  kid : ∀ s, s < K.length → w.ownsRow w0.heap.size 94 2 (kv.getD s undef) (K.getD s []).length (flatK (K.getD s []))
  apart : ∀ s t k, s < K.length → t < K.length → s ≠ t → (kv.getD s undef).ownBlock = some k → (kv.getD t undef).ownBlock ≠ some k
theorem RefRaw.moved {w0 w w1 : World} {g : Nat} {A : Option Addr} {n c : Nat} {vW vK : Value} {wv kv : List Value} {T : List Wd} {K : List (List (Int × Int))} (h : RefRaw w0 w g A n c vW vK wv kv T K) (hb : Below w0.heap.size w0 w1)
    (hm : ∀ (k ty : Nat) (cells : Array Value), w.heap[k]? = some (.cells cells ty (0, 0)) → (ty = 57 ∨ ty = 32 ∨ ty = 92 ∨ ty = 94) → w1.heap[k]? = w.heap[k]?) : RefRaw w0 w1 g A n c vW vK wv kv T K := by
  have ho : ∀ {e size m : Nat} {v : Value} {xs : List Value}, (e = 57 ∨ e = 32 ∨ e = 92 ∨ e = 94) → w.ownsRow w0.heap.size e size v m xs → w1.ownsRow w0.heap.size e size v m xs := fun he ho => own_move ho fun k hk => by
    obtain ⟨cells, hc⟩ := own_typed ho k hk
    exact hm k _ cells hc he
  exact ⟨hb, h.gb, (hm g 57 _ h.blk (.inl rfl)).trans h.blk, h.wl, ho (.inr (.inl rfl)) h.wown, h.word, h.kl, ho (.inr (.inr (.inl rfl))) h.kown, fun s hs => ho (.inr (.inr (.inr rfl))) (h.kid s hs), h.apart⟩
theorem RefRaw.next {w0 w w1 : World} {g : Nat} {A : Option Addr} {n c : Nat} {vW vK : Value} {wv kv : List Value} {T : List Wd} {K : List (List (Int × Int))} (h : RefRaw w0 w g A n c vW vK wv kv T K) (hb : Below w.heap.size w w1) : RefRaw w0 w1 g A n c vW vK wv kv T K :=
  h.moved (h.below.trans (hb.mono h.below.size)) fun k ty cells hk _ => hb.block k (Array.getElem?_eq_some_iff.1 hk).1
theorem RefRaw.drewN {w0 w : World} {g : Nat} {A : Option Addr} {n c : Nat} {vW vK : Value} {wv kv : List Value} {T : List Wd} {K : List (List (Int × Int))} (h : RefRaw w0 w g A n c vW vK wv kv T K) (q : Nat) : RefRaw w0 (w.drewN q) g A n c vW vK wv kv T K := h.next (below_drewN' (Below.refl _ _) q)
theorem RefRaw.cells {w0 w : World} {g : Nat} {A : Option Addr} {n c : Nat} {vW vK : Value} {wv kv : List Value} {T : List Wd} {K : List (List (Int × Int))} (h : RefRaw w0 w g A n c vW vK wv kv T K) : w.cell? ⟨g, 0, none⟩ = some (.slice A n c) ∧ w.cell? ⟨g, 1, none⟩ = some vW ∧ w.cell? ⟨g, 2, none⟩ = some vK ∧ ∀ j, w.frozen? ⟨g, j, none⟩ = false := by
  refine ⟨?_, ?_, ?_, fun j => frozen_of_row _ _ _ _ _ h.blk⟩
  · rw [cell_of_row _ _ _ _ _ _ h.blk]; rfl
  · rw [cell_of_row _ _ _ _ _ _ h.blk]; rfl
  · rw [cell_of_row _ _ _ _ _ _ h.blk]; rfl
theorem getD_some {α : Type} {l : List α} {i : Nat} (h : i < l.length) (d : α) : l[i]? = some (l.getD i d) := by
  rw [List.getD_eq_getElem?_getD, List.getElem?_eq_getElem h]; rfl
/-- The word of a state, in memory. -/
theorem RefRaw.wordAt {w0 w : World} {g : Nat} {A : Option Addr} {n c : Nat} {vW vK : Value} {wv kv : List Value} {T : List Wd} {K : List (List (Int × Int))} (h : RefRaw w0 w g A n c vW vK wv kv T K) {s : Nat} (hs : s < T.length) :
    ∃ gW cW A' c', vW = .slice (some ⟨gW, 0, none⟩) T.length cW ∧ w.cell? ⟨gW, s, none⟩ = some (.slice A' (T.getD s []).length c') ∧ (T.getD s []).length ≤ c' ∧ (Kd.int .u8).C w A' (T.getD s []).length (T.getD s []) := by
  obtain ⟨gW, cW, rfl, _, _, _, hc⟩ := own_at h.wown (by omega)
  obtain ⟨A', c', h1, h2, h3⟩ := h.word s hs
  refine ⟨gW, cW, A', c', rfl, ?_, h2, Kd.C_below h3 h.below⟩
  rw [hc s (by omega), getD_some (by rw [h.wl]; exact hs) undef, h1]
/-- The kids of a state, in memory. -/
theorem RefRaw.kidAt {w0 w : World} {g : Nat} {A : Option Addr} {n c : Nat} {vW vK : Value} {wv kv : List Value} {T : List Wd} {K : List (List (Int × Int))} (h : RefRaw w0 w g A n c vW vK wv kv T K) {s : Nat} (hs : s < K.length) :
    ∃ gK cK A' c', vK = .slice (some ⟨gK, 0, none⟩) K.length cK ∧ kv.getD s undef = .slice A' (K.getD s []).length c' ∧ w.cell? ⟨gK, s, none⟩ = some (.slice A' (K.getD s []).length c') ∧ ∀ i, i < (K.getD s []).length → ∃ ad, A' = some ad ∧ w.cell? (ad.add (i * 2)) = some (.int .u8 ((K.getD s []).getD i (0, 0)).1) ∧ w.cell? ⟨(ad.add (i * 2)).block, (ad.add (i * 2)).off + 1, none⟩ = some (.int .i64 ((K.getD s []).getD i (0, 0)).2) := by
  obtain ⟨gK, cK, rfl, _, _, _, hc⟩ := own_at h.kown (by omega)
  have hk := h.kid s hs
  obtain ⟨A', c', hv⟩ := own_slice hk
  refine ⟨gK, cK, A', c', rfl, hv, ?_, fun i hi => ?_⟩
  · rw [hc s (by omega), getD_some (by rw [h.kl]; exact hs) undef, hv]
  · obtain ⟨g2, c2, hv2, _, _, _, hc2⟩ := own_at hk (by omega)
    rw [hv2] at hv
    injection hv with e1 _ _
    subst e1
    have hg := getD_some hi (0, 0)
    refine ⟨⟨g2, 0, none⟩, rfl, ?_, ?_⟩
    · rw [Go.WideShapes.add_plain, Nat.zero_add, hc2 (i * 2) (by omega), ← Nat.add_zero (i * 2), flatK_get _ i 0 _ hg (by omega)]; rfl
    · rw [Go.WideShapes.add_plain, Nat.zero_add]
      show w.cell? ⟨g2, i * 2 + 1, none⟩ = _
      rw [hc2 (i * 2 + 1) (by omega), flatK_get _ i 1 _ hg (by omega)]; rfl
/-- The reference's machine. -/
def RefAt (w0 w : World) (g : Nat) (A : Option Addr) (c : Nat) (ps : List Wd) (T : List Wd) : Prop := ∃ vW vK wv kv K, RefRaw w0 w g A ps.length c vW vK wv kv T K ∧ KidsOk T K ∧ TrieI T ∧ T.length ≤ 2100
theorem RefAt.next {w0 w w1 : World} {g : Nat} {A : Option Addr} {c : Nat} {ps T : List Wd} (h : RefAt w0 w g A c ps T) (hb : Below w.heap.size w w1) : RefAt w0 w1 g A c ps T := by
  obtain ⟨vW, vK, wv, kv, K, h1, h2⟩ := h
  exact ⟨vW, vK, wv, kv, K, h1.next hb, h2⟩
theorem RefAt.drewN {w0 w : World} {g : Nat} {A : Option Addr} {c : Nat} {ps T : List Wd} (h : RefAt w0 w g A c ps T) (q : Nat) : RefAt w0 (w.drewN q) g A c ps T := h.next (below_drewN' (Below.refl _ _) q)
set_option maxHeartbeats 2000000 in
set_option maxRecDepth 1000000 in
theorem kidRaw_calls {w0 : World} (w : World) {g : Nat} {A : Option Addr} {n c : Nat} {vW vK : Value} {wv kv : List Value} {T : List Wd} {K : List (List (Int × Int))} (h : RefRaw w0 w g A n c vW vK wv kv T K) (hk : KidsOk T K) (hl : T.length ≤ 2100) {s : Nat} (hs : s < T.length) (b : Int) :
    Calls Try.prog 57 #[.pointer (some ⟨g, 0, none⟩), .int .i64 (s : Int), .int .u8 b] w fun e w' => e = .returned (.int .i64 (kidW T s b)) ∧ ∃ q, w' = w.drewN q := by
  obtain ⟨_, _, ck, _⟩ := h.cells
  have hsk : s < K.length := by rw [hk.len]; exact hs
  obtain ⟨gK, cK, A', c', rfl, _, hcell, hent⟩ := h.kidAt hsk
  obtain ⟨ks, hks⟩ : ∃ ks, K.getD s [] = ks := ⟨_, rfl⟩
  rw [hks] at hcell hent
  have HK := Lib.hid hk
  have HE := Lib.hid hent
  have HKS := Lib.hid hks
  have HS := Lib.hid hs
  have hsz : (s : Int) < (K.length : Int) := by omega
  have hkk : ks.length ≤ 9223372036854775807 := by
    have h1 := (h.kid s hsk).1
    rw [hks] at h1
    have h2 := own_slice (h.kid s hsk)
    have h3 := h.kid s hsk
    rcases h3.2 with ⟨_, h0⟩ | ⟨g3, cap, cur, _, _, _, h4, h5, _⟩
    · rw [hks] at h0; omega
    · rw [hks] at h4; unfold maxLen at h5; omega
  clear hent hks h hs hk
  go_enter Try.func57, Try.ntmps57
  go_wp2
  go_loopg [7] ks.length (fun g1 vi wr => ∃ i : Nat, vi = .int .i64 (i : Int) ∧ i ≤ ks.length ∧ ks.length - i ≤ g1 ∧ Hid (∀ j, j < i → (ks.getD j (0, 0)).1 ≠ b) ∧ wr = w)
  case atStart => exact ⟨0, rfl, Nat.zero_le _, Nat.le_refl _, fun j hj => absurd hj (Nat.not_lt_zero j), rfl⟩
  case round =>
    obtain ⟨i, rfl, hi, hg1, HN, hw⟩ := hrel
    subst hw
    by_cases hlt : i < ks.length
    · have hiz : (i : Int) < (ks.length : Int) := by omega
      obtain ⟨ad, rfl, h1, h2⟩ := HE.out i hlt
      obtain ⟨eb, heb⟩ : ∃ eb, (ks.getD i (0, 0)).1 = eb := ⟨_, rfl⟩
      obtain ⟨et, het⟩ : ∃ et, (ks.getD i (0, 0)).2 = et := ⟨_, rfl⟩
      rw [heb] at h1
      rw [het] at h2
      have hmem : (eb, et) ∈ ks := by
        rw [← heb, ← het, List.getD_eq_getElem?_getD, List.getElem?_eq_getElem hlt]
        exact List.getElem_mem _
      by_cases he : eb = b
      · have hez : (eb == b) = true := by rw [beq_iff_eq]; exact he
        rw [← HKS.out] at hmem
        have hres := kid_hit HK.out HS.out hmem
        rw [he] at hres
        have HR := Lib.hid hres
        clear hres hmem he heb het
        go_wp2
        go_ret
        exact ⟨by rw [HR.out]; rfl, 0, rfl⟩
      · have hez : (eb == b) = false := by rw [beq_eq_false_iff_ne]; exact he
        have hnew : Hid (∀ j, j < i + 1 → (ks.getD j (0, 0)).1 ≠ b) := fun j hj => by
          rcases Nat.lt_or_ge j i with h | h
          · exact HN.out j h
          · obtain rfl : j = i := by omega
            rw [heb]; exact he
        have hwi : IntKind.i64.wrap ((i : Int) + 1) = (i : Int) + 1 := by rw [IntKind.wrap_i64]; omega
        clear hmem he heb het
        go_wp2
        go_roundg (ks.length - (i + 1))
        case measure => omega
        case rel => exact ⟨i + 1, by go_num, by omega, Nat.le_refl _, hnew, rfl⟩
    · have hiz : ¬ (i : Int) < (ks.length : Int) := by omega
      obtain rfl : i = ks.length := by omega
      have hres := kid_miss (b := b) HK.out HS.out (fun e he => by
        rw [HKS.out] at he
        obtain ⟨j, hj, rfl⟩ := List.mem_iff_getElem.1 he
        have := HN.out j hj
        rwa [List.getD_eq_getElem?_getD, List.getElem?_eq_getElem hj] at this)
      have HR := Lib.hid hres
      clear hres
      go_wp2
      go_ret
      exact ⟨by rw [HR.out]; rfl, 0, rfl⟩
end Go.Proofs.Ytdciniefkodeaaa.PAll
