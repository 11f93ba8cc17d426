/- The reference's Build, walked. -/
import Derived.Test.YtdciniefkodeaaaQPl7HRefB
set_option linter.unusedVariables false
set_option linter.unusedSimpArgs false
namespace Go.Proofs.Ytdciniefkodeaaa.PAll
open Go.Sort Go.RowKit Go.Proofs.YtdciniefkodeaaaW.PrintWords Go.Proofs.YtdciniefkodeaaaW.PrintLast Go.Proofs.YtdciniefkodeaaaW.PrintMore
def RefRes (w : World) (A : Option Addr) (c : Nat) (ps : List Wd) (e : Ending) (w' : World) : Prop :=
  Below w.heap.size w w' ∧ ((chkW ps ≠ 0 ∧ e = .returned (.tuple #[.pointer none, .int .i64 (chkW ps)])) ∨ (chkW ps = 0 ∧ ∃ g, e = .returned (.tuple #[.pointer (some ⟨g, 0, none⟩), .int .i64 0]) ∧ RefAt w w' g A c ps (trie ps)))
theorem ref_start {w w1 : World} (hb : Below w.heap.size w w1) (A : Option Addr) (n c : Nat) :
    RefRaw w (((((w1.alloc (.cells #[] 5)).alloc (.cells #[.slice (some ⟨w1.heap.size, 0, none⟩) 0 0] 32)).alloc (.cells #[] 94)).alloc (.cells #[.slice (some ⟨w1.heap.size + 1 + 1, 0, none⟩) 0 0] 92)).alloc (.cells #[.slice A n c, .slice (some ⟨w1.heap.size + 1, 0, none⟩) 1 1, .slice (some ⟨w1.heap.size + 1 + 1 + 1, 0, none⟩) 1 1] 57))
      (w1.heap.size + 1 + 1 + 1 + 1) A n c (.slice (some ⟨w1.heap.size + 1, 0, none⟩) 1 1) (.slice (some ⟨w1.heap.size + 1 + 1 + 1, 0, none⟩) 1 1) [.slice (some ⟨w1.heap.size, 0, none⟩) 0 0] [.slice (some ⟨w1.heap.size + 1 + 1, 0, none⟩) 0 0] [[]] [[]] := by
  have s0 := hb.size
  obtain ⟨W1, hW1⟩ : ∃ W1, w1.alloc (.cells #[] 5) = W1 := ⟨_, rfl⟩
  have s1 : W1.heap.size = w1.heap.size + 1 := by rw [← hW1]; simp
  have b1 : Below w.heap.size w W1 := by rw [← hW1]; exact hb.alloc s0 _
  rw [hW1]
  have ow := World.ownsRow_lit (base := w.heap.size) (e := 32) (size := 1) W1 #[.slice (some ⟨w1.heap.size, 0, none⟩) 0 0] 1 b1.size (by decide) rfl
  obtain ⟨W2, hW2⟩ : ∃ W2, W1.alloc (.cells #[.slice (some ⟨w1.heap.size, 0, none⟩) 0 0] 32) = W2 := ⟨_, rfl⟩
  have s2 : W2.heap.size = w1.heap.size + 1 + 1 := by rw [← hW2, ← s1]; simp
  have b2 : Below w.heap.size w W2 := by rw [← hW2]; exact b1.alloc b1.size _
  rw [hW2] at ow ⊢
  have ok0 := World.ownsRow_lit (base := w.heap.size) (e := 94) (size := 2) W2 #[] 0 b2.size (by decide) rfl
  obtain ⟨W3, hW3⟩ : ∃ W3, W2.alloc (.cells #[] 94) = W3 := ⟨_, rfl⟩
  have s3 : W3.heap.size = w1.heap.size + 1 + 1 + 1 := by rw [← hW3, ← s2]; simp
  have b3 : Below w.heap.size w W3 := by rw [← hW3]; exact b2.alloc b2.size _
  have c3 : Below W2.heap.size W2 W3 := by rw [← hW3]; exact (Below.refl _ _).alloc (Nat.le_refl _) _
  rw [hW3] at ok0 ⊢
  have ok := World.ownsRow_lit (base := w.heap.size) (e := 92) (size := 1) W3 #[.slice (some ⟨w1.heap.size + 1 + 1, 0, none⟩) 0 0] 1 b3.size (by decide) rfl
  obtain ⟨W4, hW4⟩ : ∃ W4, W3.alloc (.cells #[.slice (some ⟨w1.heap.size + 1 + 1, 0, none⟩) 0 0] 92) = W4 := ⟨_, rfl⟩
  have s4 : W4.heap.size = w1.heap.size + 1 + 1 + 1 + 1 := by rw [← hW4, ← s3]; simp
  have b4 : Below w.heap.size w W4 := by rw [← hW4]; exact b3.alloc b3.size _
  have c4 : Below W3.heap.size W3 W4 := by rw [← hW4]; exact (Below.refl _ _).alloc (Nat.le_refl _) _
  rw [hW4] at ok ⊢
  have hn := heap_alloc_new W4 (.cells #[.slice A n c, .slice (some ⟨w1.heap.size + 1, 0, none⟩) 1 1, .slice (some ⟨w1.heap.size + 1 + 1 + 1, 0, none⟩) 1 1] 57)
  obtain ⟨W5, hW5⟩ : ∃ W5, W4.alloc (.cells #[.slice A n c, .slice (some ⟨w1.heap.size + 1, 0, none⟩) 1 1, .slice (some ⟨w1.heap.size + 1 + 1 + 1, 0, none⟩) 1 1] 57) = W5 := ⟨_, rfl⟩
  have b5 : Below w.heap.size w W5 := by rw [← hW5]; exact b4.alloc b4.size _
  have c5 : Below W4.heap.size W4 W5 := by rw [← hW5]; exact (Below.refl _ _).alloc (Nat.le_refl _) _
  rw [hW5] at hn ⊢
  rw [s1] at ow
  rw [s2] at ok0
  rw [s3] at ok
  rw [s4] at hn
  have c35 : Below W3.heap.size W3 W5 := c4.trans (c5.mono c4.size)
  have c25 : Below W2.heap.size W2 W5 := c3.trans (c35.mono c3.size)
  have mv : ∀ {Wa : World} {e size m : Nat} {v : Value} {xs : List Value}, Below Wa.heap.size Wa W5 → Wa.ownsRow w.heap.size e size v m xs → W5.ownsRow w.heap.size e size v m xs := fun hbb ho => own_move ho fun k hk => hbb.block k (own_lt ho k hk)
  refine ⟨b5, by omega, hn, rfl, mv c25 ow, fun s hs => ?_, rfl, mv c5 ok, fun s hs => ?_, fun s t k hs ht hst => ?_⟩
  · obtain rfl : s = 0 := by simpa using hs
    exact ⟨_, _, rfl, Nat.le_refl _, rfl, by decide, fun h => absurd h (Nat.lt_irrefl 0)⟩
  · obtain rfl : s = 0 := by simpa using hs
    exact mv c35 ok0
  · have h1 : s = 0 := by simpa using hs
    have h2 : t = 0 := by simpa using ht
    exact absurd (h1.trans h2.symm) hst
theorem step_kid {ops : Array Oper} {o : Oper} {a : Act} {Kc : Act → World → Prop} {Q : Exit → Act → World → Prop} {E : Prop} {W : World} (hgd : o.guard = none) (s x : Operand)
    (ho : o.op = .call { callee := .builtin .append, args := #[s, x], argTypes := #[92, 92] }) (base : Nat) (v : Value) (ks : List (Int × Int)) (b t : Int) (g : Nat)
    (h1 : a.eval s = v) (h2 : a.eval x = .slice (some ⟨g, 0, none⟩) 1 1) (hown : W.ownsRow base 94 2 v ks.length (flatK ks)) (hnew : W.heap[g]? = some (.cells (kidC b t).toArray 94 (0, 0)))
    (hl : ks.length ≤ 1048576) (hbase : base ≤ W.heap.size)
    (h : ∀ Av cv w', w'.ownsRow base 94 2 (.slice Av (ks.length + 1) cv) (ks.length + 1) (flatK ks ++ kidC b t) → W.grownBy w' v.ownBlock → ((.slice Av (ks.length + 1) cv : Value).ownBlock = v.ownBlock ∨ ∃ k, (.slice Av (ks.length + 1) cv : Value).ownBlock = some k ∧ W.heap.size ≤ k) → Kc (a.put o.dst (.slice Av (ks.length + 1) cv)) w') :
    if Region.wanted o (yielded ops a.tmps) = true then Oper.wp Try.prog o a W Kc Q else E := by
  obtain ⟨i0, hi, hz0, hz1, hz2⟩ := info_parts info94
  refine step_append_lies _ hgd s x 92 ho base 94 i0 _ 2 16 Try.underlying92 hi hz0 hz1 hz2 rfl (by decide) v ks.length (flatK ks) h1 hown ⟨g, 0, none⟩ 1 1 (kidC b t) h2 rfl (World.news_of_block (cs := (kidC b t).toArray) (t := 94) (fr := (0, 0)) hnew) (by simp [Value.oneCell', kidC]) (by decide) (by unfold maxLen; omega) (by omega) hbase W.heap.size rfl ?_
  intro g2 cap w1 hown1 hgrow hat _
  refine h (some ⟨g2, 0, none⟩) cap w1 hown1 hgrow ?_
  rcases hat with hat | hat
  · exact .inl hat.symm
  · exact .inr ⟨g2, rfl, by omega⟩
theorem step_word {ops : Array Oper} {o : Oper} {a : Act} {Kc : Act → World → Prop} {Q : Exit → Act → World → Prop} {E : Prop} {W : World} (hgd : o.guard = none) (s x : Operand)
    (ho : o.op = .call { callee := .builtin .append, args := #[s, x], argTypes := #[22, 22] }) (base : Nat) (v : Value) (m : Nat) (wv : List Value) (u : Value) (g : Nat)
    (h1 : a.eval s = v) (h2 : a.eval x = .slice (some ⟨g, 0, none⟩) 1 1) (hown : W.ownsRow base 32 1 v m wv) (hnew : W.heap[g]? = some (.cells #[u] 32 (0, 0))) (hu : u.oneCell' = true)
    (hl : m ≤ 1048576) (hbase : base ≤ W.heap.size)
    (h : ∀ Av cv w', w'.ownsRow base 32 1 (.slice Av (m + 1) cv) (m + 1) (wv ++ [u]) → W.grownBy w' v.ownBlock → Kc (a.put o.dst (.slice Av (m + 1) cv)) w') :
    if Region.wanted o (yielded ops a.tmps) = true then Oper.wp Try.prog o a W Kc Q else E := by
  obtain ⟨i0, hi, hz0, hz1, hz2⟩ := info_parts info32
  refine step_append_lies _ hgd s x 22 ho base 32 i0 _ 1 24 Try.underlying22 hi hz0 hz1 hz2 rfl (by decide) v m wv h1 hown ⟨g, 0, none⟩ 1 1 [u] h2 rfl (World.news_of_block (cs := #[u]) (t := 32) (fr := (0, 0)) hnew) (by simpa using hu) (by decide) (by unfold maxLen; omega) (by omega) hbase W.heap.size rfl ?_
  intro g2 cap w1 hown1 hgrow _ _
  exact h (some ⟨g2, 0, none⟩) cap w1 hown1 hgrow
theorem append_kids {ops : Array Oper} {rest : List Oper} {o : Oper} {a : Act} {Q : Exit → Act → World → Prop} {W : World} (s x : Operand) (hgd : o.guard = none)
    (ho : o.op = .call { callee := .builtin .append, args := #[s, x], argTypes := #[55, 55] }) (base : Nat) (v : Value) (m : Nat) (kv : List Value) (g : Nat)
    (h1 : a.eval s = v) (h2 : a.eval x = .slice (some ⟨g, 0, none⟩) 1 1) (hown : W.ownsRow base 92 1 v m kv) (hnew : W.heap[g]? = some (.cells #[.slice none 0 0] 92 (0, 0)))
    (hl : m ≤ 1048576) (hbase : base ≤ W.heap.size)
    (h : ∀ Av cv w', w'.ownsRow base 92 1 (.slice Av (m + 1) cv) (m + 1) (kv ++ [.slice none 0 0]) → W.grownBy w' v.ownBlock → wpList Try.prog ops Q rest (a.put o.dst (.slice Av (m + 1) cv)) w') :
    wpList Try.prog ops Q (o :: rest) a W := by
  obtain ⟨i0, hi, hz0, hz1, hz2⟩ := info_parts info92
  refine wpList_append_lies _ hgd s x 55 ho base 92 i0 _ 1 24 Try.underlying55 hi hz0 hz1 hz2 rfl (by decide) v m kv h1 hown ⟨g, 0, none⟩ 1 1 [.slice none 0 0] h2 rfl (World.news_of_block (cs := #[.slice none 0 0]) (t := 92) (fr := (0, 0)) hnew) (by simp [Value.oneCell']) (by decide) (by unfold maxLen; omega) (by omega) hbase W.heap.size rfl ?_
  intro g2 cap w1 hown1 hgrow _ _
  exact h (some ⟨g2, 0, none⟩) cap w1 hown1 hgrow
theorem kids_len0 : ∀ s, ((([[]] : List (List (Int × Int))).getD s []).length ≤ ([[]] : List Wd).length)
  | 0 => Nat.zero_le _
  | s + 1 => Nat.zero_le _
theorem kids_len {T : List Wd} {K : List (List (Int × Int))} (h : ∀ s, (K.getD s []).length ≤ T.length) (s : Nat) (e : Int × Int) (x : Wd) : ∀ t, ((K.set s (K.getD s [] ++ [e]) ++ [[]]).getD t []).length ≤ (T ++ [x]).length := by
  intro t
  rw [List.length_append]
  show _ ≤ T.length + 1
  by_cases h1 : t < K.length
  · rw [getD_left _ _ _ (by rw [List.length_set]; exact h1)]
    by_cases h2 : t = s
    · subst h2
      rw [getD_set_self _ _ _ h1, List.length_append]
      have := h t
      show _ + 1 ≤ _
      omega
    · rw [getD_set_ne _ _ _ (Ne.symm h2)]
      have := h t
      omega
  · rw [List.getD_eq_getElem?_getD, List.getElem?_append_right (by rw [List.length_set]; omega)]
    rcases hq : t - (K.set s (K.getD s [] ++ [e])).length with _ | m
    · exact Nat.zero_le _
    · exact Nat.zero_le _
theorem cell_block {w w1 : World} {p : Addr} {u : Value} (h : w.cell? p = some u) (hb : w1.heap[p.block]? = w.heap[p.block]?) : w1.cell? p = some u := by
  rw [World.cell?_of_block (w := w) (a := p) hb]; exact h
set_option maxHeartbeats 4000000 in
set_option maxRecDepth 1000000 in
theorem refBuild_calls (w : World) (A : Option Addr) (c : Nat) (ps : List Wd) (h : PsAt w A c ps) : Calls Try.prog 35 #[.slice A ps.length c] w (RefRes w A c ps) := by
  have K0 := Lib.hid (refCheck_ctr h)
  have H := Lib.hid h
  clear h
  obtain ⟨z, hz⟩ : ∃ z, chkW ps = z := ⟨_, rfl⟩
  rw [hz] at K0
  have HZ := Lib.hid hz
  clear hz
  go_enter Try.func35, Try.ntmps35
  go_wp2_with fail
  refine K0.out.mono ?_
  rintro e w1 ⟨rfl, hb⟩
  have B1 := Lib.hid hb
  clear hb K0
  by_cases h0 : z = 0
  · subst h0
    have HCZ := Lib.hid (chkW_zero HZ.out)
    have HR0 := Lib.hid (ref_start B1.out A ps.length c)
    go_wp2
    generalize (((((w1.alloc (.cells #[] 5)).alloc (.cells #[.slice (some ⟨w1.heap.size, 0, none⟩) 0 0] 32)).alloc (.cells #[] 94)).alloc (.cells #[.slice (some ⟨w1.heap.size + 1 + 1, 0, none⟩) 0 0] 92)).alloc (.cells #[.slice A ps.length c, .slice (some ⟨w1.heap.size + 1, 0, none⟩) 1 1, .slice (some ⟨w1.heap.size + 1 + 1 + 1, 0, none⟩) 1 1] 57)) = w2 at HR0 ⊢
    obtain ⟨g, hg⟩ : ∃ g, w1.heap.size + 1 + 1 + 1 + 1 = g := ⟨_, rfl⟩
    rw [hg] at HR0 ⊢
    clear hg
    go_loopg [6] ps.length (fun g1 vi wr => ∃ (i : Nat) (T : List Wd) (vW vK : Value) (wv kv : List Value) (K : List (List (Int × Int))), vi = .int .i64 (i : Int) ∧ i ≤ ps.length ∧ ps.length - i ≤ g1 ∧ Hid (T = (ps.take i).foldl layW [[]]) ∧ Hid (RefRaw w wr g A ps.length c vW vK wv kv T K) ∧ Hid (KidsOk T K ∧ TrieI T ∧ T.length ≤ 1 + 32 * i ∧ ∀ s, (K.getD s []).length ≤ T.length))
    case atStart => exact ⟨0, _, _, _, _, _, _, rfl, Nat.zero_le _, Nat.le_refl _, rfl, HR0, kids_start, trieI_start, Nat.le_refl _, kids_len0⟩
    case round =>
      clear HR0
      obtain ⟨i, T0, vW, vK, wv, kv, K, rfl, hi, hg1, HT0, HR, HK⟩ := hrel
      by_cases hlt : i < ps.length
      · have hiz : (i : Int) < (ps.length : Int) := by omega
        obtain ⟨p, hp⟩ : ∃ p, ps.getD i [] = p := ⟨_, rfl⟩
        have hpm : p ∈ ps := by rw [← hp, List.getD_eq_getElem?_getD, List.getElem?_eq_getElem hlt]; exact List.getElem_mem _
        have hp32 := (HCZ.out.2.2 p hpm).2
        have HPE := Lib.hid hp
        clear hp hpm
        go_wp2
        go_loopg [7, 8] p.length (fun g2 vs vk wr => ∃ (k s : Nat) (T : List Wd) (vW vK : Value) (wv kv : List Value) (K : List (List (Int × Int))), vs = .int .i64 (s : Int) ∧ vk = .int .i64 (k : Int) ∧ k ≤ p.length ∧ p.length - k ≤ g2 ∧ Hid (T = layFrom p k T0) ∧ Hid (s < T.length ∧ T.getD s [] = p.take k) ∧ Hid (RefRaw w wr g A ps.length c vW vK wv kv T K) ∧ Hid (KidsOk T K ∧ TrieI T ∧ T.length ≤ 1 + 32 * i + k ∧ ∀ s, (K.getD s []).length ≤ T.length))
        case atStart => exact ⟨0, 0, _, _, _, _, _, _, rfl, rfl, Nat.zero_le _, Nat.le_refl _, rfl, ⟨HK.out.2.1.pos, HK.out.2.1.zero⟩, HR, HK.out.1, HK.out.2.1, HK.out.2.2.1, HK.out.2.2.2⟩
        case round =>
          clear HR HK
          obtain ⟨k, s, T, vW, vK, wv, kv, K, rfl, rfl, hk, hg2, HT, HS, HR, HK⟩ := hrel
          obtain ⟨ad, Ap, cp, rfl, hrow0, hcp, hCp⟩ := ps_row H.out hlt
          rw [HPE.out] at hrow0 hcp hCp
          have hrow := cell_below HR.out.below hrow0
          have hwi : IntKind.i64.wrap ((i : Int) + 1) = (i : Int) + 1 := by rw [IntKind.wrap_i64]; have := HCZ.out.2.1; omega
          by_cases hkl : k < p.length
          · have hkz : (k : Int) < (p.length : Int) := by omega
            obtain ⟨adp, rfl, hcell0⟩ := byte_at hCp hkl
            obtain ⟨b, hb⟩ : ∃ b, p.getD k 0 = b := ⟨_, rfl⟩
            rw [hb] at hcell0
            have hcell := cell_below HR.out.below hcell0
            have hsw : T.getD s [] ++ [b] = p.take (k + 1) := by rw [HS.out.2, text_step hkl, hb]
            have htl : T.length ≤ 2100 := by have h1 := HK.out.2.2.1; have h2 := HCZ.out.2.1; omega
            have KK := kidRaw_calls wr HR.out HK.out.1 htl HS.out.1 b
            have hwk : IntKind.i64.wrap ((k : Int) + 1) = (k : Int) + 1 := by rw [IntKind.wrap_i64]; omega
            have HRow0 := Lib.hid hrow0
            have HCell0 := Lib.hid hcell0
            have HSW := Lib.hid hsw
            have HCP := Lib.hid hcp
            have HCp := Lib.hid hCp
            have HTL2 := Lib.hid htl
            by_cases hin : T.getD s [] ++ [b] ∈ T
            · obtain ⟨s2, hs2⟩ : ∃ s2, T.idxOf (T.getD s [] ++ [b]) = s2 := ⟨_, rfl⟩
              have hkw : kidW T s b = (s2 : Int) := by unfold kidW; rw [if_pos hin, hs2]
              rw [hkw] at KK
              have HKK := Lib.hid KK
              have HT2 : Hid (T = layFrom p (k + 1) T0) := by
                have h1 := HT.out
                rw [Hid, layFrom, ← h1, addW, if_pos (by rw [← hsw]; exact hin)]
              have HS2 : Hid (s2 < T.length ∧ T.getD s2 [] = p.take (k + 1)) := by
                rw [← hs2]
                exact ⟨idx_lt hin, by rw [idx_get hin, hsw]⟩
              have HK2 : Hid (KidsOk T K ∧ TrieI T ∧ T.length ≤ 1 + 32 * i + (k + 1) ∧ ∀ s, (K.getD s []).length ≤ T.length) := ⟨HK.out.1, HK.out.2.1, by have := HK.out.2.2.1; omega, HK.out.2.2.2⟩
              have hnz : ¬ ((s2 : Int) < 0) := by omega
              clear hin hs2 hkw KK hsw hb htl hrow0 hcell0 hcp hCp
              go_wp2_with fail
              refine HKK.out.mono ?_
              rintro e wq ⟨rfl, q, hq⟩
              have HR2 : Hid (RefRaw w wq g (some ad) ps.length c vW vK wv kv T K) := by rw [hq]; exact HR.out.drewN q
              clear hq HKK
              go_wp2
              go_roundg (p.length - (k + 1))
              case measure => omega
              case rel => exact ⟨k + 1, s2, T, vW, vK, wv, kv, K, rfl, by go_num, by omega, Nat.le_refl _, HT2, HS2, HR2, HK2⟩
            · have hkw : kidW T s b = -1 := by unfold kidW; rw [if_neg hin]
              rw [hkw] at KK
              have HKK := Lib.hid KK
              have HIN := Lib.hid hin
              clear hin hkw KK hsw hb htl hrow0 hcell0 hcp hCp
              go_wp2_with fail
              refine HKK.out.mono ?_
              rintro e wq ⟨rfl, q, hq⟩
              have HRq : Hid (RefRaw w wq g (some ad) ps.length c vW vK wv kv T K) := by rw [hq]; exact HR.out.drewN q
              clear hq HKK
              have hsk : s < K.length := by rw [HK.out.1.len]; exact HS.out.1
              obtain ⟨gW, cW, _, _, hvW, _, _, _⟩ := HRq.out.wordAt HS.out.1
              obtain ⟨gK, cK, Ak, ck, hvK, hkv, hkc, _⟩ := HRq.out.kidAt hsk
              subst hvW
              subst hvK
              obtain ⟨ks, hks⟩ : ∃ ks, K.getD s [] = ks := ⟨_, rfl⟩
              rw [hks] at hkv hkc
              obtain ⟨_, k4, k0, _⟩ := HRq.out.cells
              have HOKq := HRq.out.kid s hsk
              rw [hks, hkv] at HOKq
              have hksl : ks.length ≤ 1048576 := by have h1 := HK.out.2.2.2 s; rw [hks] at h1; have h2 := HTL2.out; omega
              have k2 := cell_below HRq.out.below HRow0.out
              have k3 := cell_below HRq.out.below HCell0.out
              have k1 := hkc
              have hskz : (s : Int) < (K.length : Int) := by omega
              clear hrow hcell
              have HRQ2 := HRq
              have HKV := Lib.hid hkv
              have HKSS := Lib.hid hks
              have HSK := Lib.hid hsk
              have HB15 : Hid (Below wq.heap.size wq (wq.drew.alloc (.cells (kidC b (T.length : Int)).toArray 94))) := (below_drewN' (Below.refl _ _) 1).alloc (Nat.le_refl _) _
              have HOK : Hid ((wq.drew.alloc (.cells (kidC b (T.length : Int)).toArray 94)).ownsRow w.heap.size 94 2 (.slice Ak ks.length ck) ks.length (flatK ks)) := own_move HOKq fun k hk => HB15.out.block k (own_lt HOKq k hk)
              have HBA : Hid (Below w.heap.size w (wq.drew.alloc (.cells (kidC b (T.length : Int)).toArray 94))) := HRq.out.below.trans (HB15.out.mono HRq.out.below.size)
              have HKL := Lib.hid hksl
              have HKEEP : Hid (∀ w3 : World, (wq.drew.alloc (.cells (kidC b (T.length : Int)).toArray 94)).grownBy w3 (.slice Ak ks.length ck : Value).ownBlock →
                  (w3.cell? ⟨g, 2, none⟩ = some (.slice (some ⟨gK, 0, none⟩) K.length cK) ∧ w3.cell? ⟨gK, s, none⟩ = some (.slice Ak ks.length ck) ∧ w3.cell? (ad.add i) = some (.slice (some adp) p.length cp) ∧ w3.cell? (adp.add k) = some (.int .u8 b)) ∧ w3.frozen? ⟨gK, s, none⟩ = false) := fun w3 hg => by
                obtain ⟨gK2, cK2, e, _, ⟨cellsK, hgK⟩, _, _⟩ := own_at HRq.out.kown (by omega)
                injection e with e1 _ _
                injection e1 with e1
                injection e1 with e1 _ _
                subst e1
                have t1 := kept_type HOKq HB15.out hg HRq.out.blk (by decide)
                have t2 := kept_type HOKq HB15.out hg hgK (by decide)
                have hb3 : Below w.heap.size w w3 := HBA.out.grown hg HBA.out.size (fun k e => own_base HOKq k e)
                exact ⟨⟨cell_block k0 t1, cell_block k1 t2, cell_below hb3 HRow0.out, cell_below hb3 HCell0.out⟩, frozen_of_row _ _ _ _ _ (t2.trans hgK)⟩
              clear hks hkv hkc HOKq hksl hsk
              go_upto_region 15 with (fail)
              go_wp2_with fail
              refine start_ (n := 25) (S := (fun w' => w'.cell? ⟨g, 2, none⟩ = some (.slice (some ⟨gK, 0, none⟩) K.length cK) ∧ w'.cell? ⟨gK, s, none⟩ = some (.slice Ak ks.length ck) ∧ w'.cell? (ad.add i) = some (.slice (some adp) p.length cp) ∧ w'.cell? (adp.add k) = some (.int .u8 b))) (ds := [24]) #[false, false, false, false, false, false, false, false, false, false, false, false, false, false, false, false, false, false, false, false, false, false, false, false, false] (by kernel_rfl) rfl rfl ?_ (fun hHeld => ?_)
              · exact ⟨k0, k1, k2, k3⟩
              refine pure_ (i := 0) (N := some 54) (v := ?_) (a' := ?_) #[true, false, false, false, false, false, false, false, false, false, false, false, false, false, false, false, false, false, false, false, false, false, false, false, false] rfl rfl (by kernel_rfl) (fun _ _ _ h => h) (Or.inl ⟨by rfl, ?_⟩) ?_ ?_
              rotate_left
              · intro w'
                go_simp
                with_reducible rfl
              rotate_left
              · simp only [Act.put, List.setIfInBounds_toArray, List.set_cons_zero, List.set_cons_succ, i64_w, i32_w]
                rfl
              refine pure_ (i := 1) (N := some 55) (v := ?_) (a' := ?_) #[true, true, false, false, false, false, false, false, false, false, false, false, false, false, false, false, false, false, false, false, false, false, false, false, false] rfl rfl (by kernel_rfl) (fun _ _ _ h => h) (Or.inl ⟨by rfl, ?_⟩) ?_ ?_
              rotate_left
              · intro w'
                go_simp
                with_reducible rfl
              rotate_left
              · simp only [Act.put, List.setIfInBounds_toArray, List.set_cons_zero, List.set_cons_succ, i64_w, i32_w]
                rfl
              refine pure_ (i := 2) (N := some 56) (v := ?_) (a' := ?_) #[true, true, true, false, false, false, false, false, false, false, false, false, false, false, false, false, false, false, false, false, false, false, false, false, false] rfl rfl (by kernel_rfl) (fun _ _ _ h => h) (Or.inl ⟨by rfl, ?_⟩) ?_ ?_
              rotate_left
              · intro w'
                go_simp
                with_reducible rfl
              rotate_left
              · simp only [Act.put, List.setIfInBounds_toArray, List.set_cons_zero, List.set_cons_succ, i64_w, i32_w]
                rfl
              refine take_ (i := 3) (N := some 57) (v := ?_) (a' := ?_) #[true, true, true, true, false, false, false, false, false, false, false, false, false, false, false, false, false, false, false, false, false, false, false, false, false] rfl rfl (by kernel_rfl) (fun _ _ _ h => h) (Or.inl ⟨by rfl, ?_⟩) hHeld ?_ ?_
              rotate_left
              · rintro w' ⟨s0, s1, s2, s3⟩
                go_simp
                with_reducible rfl
              rotate_left
              · simp only [Act.put, List.setIfInBounds_toArray, List.set_cons_zero, List.set_cons_succ, i64_w, i32_w]
                rfl
              refine pure_ (i := 4) (N := some 58) (v := ?_) (a' := ?_) #[true, true, true, true, true, false, false, false, false, false, false, false, false, false, false, false, false, false, false, false, false, false, false, false, false] rfl rfl (by kernel_rfl) (fun _ _ _ h => h) (Or.inl ⟨by rfl, ?_⟩) ?_ ?_
              rotate_left
              · intro w'
                go_simp
                with_reducible rfl
              rotate_left
              · simp only [Act.put, List.setIfInBounds_toArray, List.set_cons_zero, List.set_cons_succ, i64_w, i32_w]
                rfl
              refine pure_ (i := 5) (N := some 59) (v := ?_) (a' := ?_) #[true, true, true, true, true, true, false, false, false, false, false, false, false, false, false, false, false, false, false, false, false, false, false, false, false] rfl rfl (by kernel_rfl) (fun _ _ _ h => h) (Or.inl ⟨by rfl, ?_⟩) ?_ ?_
              rotate_left
              · intro w'
                go_simp
                with_reducible rfl
              rotate_left
              · simp only [Act.put, List.setIfInBounds_toArray, List.set_cons_zero, List.set_cons_succ, i64_w, i32_w]
                rfl
              refine pure_ (i := 6) (N := some 60) (v := ?_) (a' := ?_) #[true, true, true, true, true, true, true, false, false, false, false, false, false, false, false, false, false, false, false, false, false, false, false, false, false] rfl rfl (by kernel_rfl) (fun _ _ _ h => h) (Or.inl ⟨by rfl, ?_⟩) ?_ ?_
              rotate_left
              · intro w'
                go_simp
                with_reducible rfl
              rotate_left
              · simp only [Act.put, List.setIfInBounds_toArray, List.set_cons_zero, List.set_cons_succ, i64_w, i32_w]
                rfl
              refine pure_ (i := 7) (N := some 61) (v := ?_) (a' := ?_) #[true, true, true, true, true, true, true, true, false, false, false, false, false, false, false, false, false, false, false, false, false, false, false, false, false] rfl rfl (by kernel_rfl) (fun _ _ _ h => h) (Or.inl ⟨by rfl, ?_⟩) ?_ ?_
              rotate_left
              · intro w'
                go_simp
                with_reducible rfl
              rotate_left
              · simp only [Act.put, List.setIfInBounds_toArray, List.set_cons_zero, List.set_cons_succ, i64_w, i32_w]
                rfl
              refine take_ (i := 8) (N := some 62) (v := ?_) (a' := ?_) #[true, true, true, true, true, true, true, true, true, false, false, false, false, false, false, false, false, false, false, false, false, false, false, false, false] rfl rfl (by kernel_rfl) (fun _ _ _ h => h) (Or.inl ⟨by rfl, ?_⟩) hHeld ?_ ?_
              rotate_left
              · rintro w' ⟨s0, s1, s2, s3⟩
                go_simp
                with_reducible rfl
              rotate_left
              · simp only [Act.put, List.setIfInBounds_toArray, List.set_cons_zero, List.set_cons_succ, i64_w, i32_w]
                rfl
              refine pure_ (i := 9) (N := some 63) (v := ?_) (a' := ?_) #[true, true, true, true, true, true, true, true, true, true, false, false, false, false, false, false, false, false, false, false, false, false, false, false, false] rfl rfl (by kernel_rfl) (fun _ _ _ h => h) (Or.inl ⟨by rfl, ?_⟩) ?_ ?_
              rotate_left
              · intro w'
                go_simp
                with_reducible rfl
              rotate_left
              · simp only [Act.put, List.setIfInBounds_toArray, List.set_cons_zero, List.set_cons_succ, i64_w, i32_w]
                rfl
              refine pure_ (i := 10) (N := some 64) (v := ?_) (a' := ?_) #[true, true, true, true, true, true, true, true, true, true, true, false, false, false, false, false, false, false, false, false, false, false, false, false, false] rfl rfl (by kernel_rfl) (fun _ _ _ h => h) (Or.inl ⟨by rfl, ?_⟩) ?_ ?_
              rotate_left
              · intro w'
                go_simp
                with_reducible rfl
              rotate_left
              · simp only [Act.put, List.setIfInBounds_toArray, List.set_cons_zero, List.set_cons_succ, i64_w, i32_w]
                rfl
              refine take_ (i := 11) (N := some 65) (v := ?_) (a' := ?_) #[true, true, true, true, true, true, true, true, true, true, true, true, false, false, false, false, false, false, false, false, false, false, false, false, false] rfl rfl (by kernel_rfl) (fun _ _ _ h => h) (Or.inl ⟨by rfl, ?_⟩) hHeld ?_ ?_
              rotate_left
              · rintro w' ⟨s0, s1, s2, s3⟩
                go_simp
                with_reducible rfl
              rotate_left
              · simp only [Act.put, List.setIfInBounds_toArray, List.set_cons_zero, List.set_cons_succ, i64_w, i32_w]
                rfl
              refine pure_ (i := 12) (N := some 66) (v := ?_) (a' := ?_) #[true, true, true, true, true, true, true, true, true, true, true, true, true, false, false, false, false, false, false, false, false, false, false, false, false] rfl rfl (by kernel_rfl) (fun _ _ _ h => h) (Or.inl ⟨by rfl, ?_⟩) ?_ ?_
              rotate_left
              · intro w'
                go_simp
                with_reducible rfl
              rotate_left
              · simp only [Act.put, List.setIfInBounds_toArray, List.set_cons_zero, List.set_cons_succ, i64_w, i32_w]
                rfl
              refine pure_ (i := 13) (N := some 67) (v := ?_) (a' := ?_) #[true, true, true, true, true, true, true, true, true, true, true, true, true, true, false, false, false, false, false, false, false, false, false, false, false] rfl rfl (by kernel_rfl) (fun _ _ _ h => h) (Or.inl ⟨by rfl, ?_⟩) ?_ ?_
              rotate_left
              · intro w'
                go_simp
                with_reducible rfl
              rotate_left
              · simp only [Act.put, List.setIfInBounds_toArray, List.set_cons_zero, List.set_cons_succ, i64_w, i32_w]
                rfl
              refine pure_ (i := 14) (N := some 68) (v := ?_) (a' := ?_) #[true, true, true, true, true, true, true, true, true, true, true, true, true, true, true, false, false, false, false, false, false, false, false, false, false] rfl rfl (by kernel_rfl) (fun _ _ _ h => h) (Or.inl ⟨by rfl, ?_⟩) ?_ ?_
              rotate_left
              · intro w'
                go_simp
                with_reducible rfl
              rotate_left
              · simp only [Act.put, List.setIfInBounds_toArray, List.set_cons_zero, List.set_cons_succ, i64_w, i32_w]
                rfl
              refine take_ (i := 15) (N := some 69) (v := ?_) (a' := ?_) #[true, true, true, true, true, true, true, true, true, true, true, true, true, true, true, true, false, false, false, false, false, false, false, false, false] rfl rfl (by kernel_rfl) (fun _ _ _ h => h) (Or.inl ⟨by rfl, ?_⟩) hHeld ?_ ?_
              rotate_left
              · rintro w' ⟨s0, s1, s2, s3⟩
                go_simp
                with_reducible rfl
              rotate_left
              · simp only [Act.put, List.setIfInBounds_toArray, List.set_cons_zero, List.set_cons_succ, i64_w, i32_w]
                rfl
              refine pure_ (i := 16) (N := some 70) (v := ?_) (a' := ?_) #[true, true, true, true, true, true, true, true, true, true, true, true, true, true, true, true, true, false, false, false, false, false, false, false, false] rfl rfl (by kernel_rfl) (fun _ _ _ h => h) (Or.inl ⟨by rfl, ?_⟩) ?_ ?_
              rotate_left
              · intro w'
                go_simp
                with_reducible rfl
              rotate_left
              · simp only [Act.put, List.setIfInBounds_toArray, List.set_cons_zero, List.set_cons_succ, i64_w, i32_w]
                rfl
              refine pure_ (i := 17) (N := some 71) (v := ?_) (a' := ?_) #[true, true, true, true, true, true, true, true, true, true, true, true, true, true, true, true, true, true, false, false, false, false, false, false, false] rfl rfl (by kernel_rfl) (fun _ _ _ h => h) (Or.inl ⟨by rfl, ?_⟩) ?_ ?_
              rotate_left
              · intro w'
                go_simp
                with_reducible rfl
              rotate_left
              · simp only [Act.put, List.setIfInBounds_toArray, List.set_cons_zero, List.set_cons_succ, i64_w, i32_w]
                rfl
              refine take_ (i := 18) (N := some 72) (v := ?_) (a' := ?_) #[true, true, true, true, true, true, true, true, true, true, true, true, true, true, true, true, true, true, true, false, false, false, false, false, false] rfl rfl (by kernel_rfl) (fun _ _ _ h => h) (Or.inl ⟨by rfl, ?_⟩) hHeld ?_ ?_
              rotate_left
              · rintro w' ⟨s0, s1, s2, s3⟩
                go_simp
                with_reducible rfl
              rotate_left
              · simp only [Act.put, List.setIfInBounds_toArray, List.set_cons_zero, List.set_cons_succ, i64_w, i32_w]
                rfl
              refine pure_ (i := 19) (N := some 73) (v := ?_) (a' := ?_) #[true, true, true, true, true, true, true, true, true, true, true, true, true, true, true, true, true, true, true, true, false, false, false, false, false] rfl rfl (by kernel_rfl) (fun _ _ _ h => h) (Or.inl ⟨by rfl, ?_⟩) ?_ ?_
              rotate_left
              · intro w'
                go_simp
                with_reducible rfl
              rotate_left
              · simp only [Act.put, List.setIfInBounds_toArray, List.set_cons_zero, List.set_cons_succ, i64_w, i32_w]
                rfl
              refine pure_ (i := 20) (N := some 74) (v := ?_) (a' := ?_) #[true, true, true, true, true, true, true, true, true, true, true, true, true, true, true, true, true, true, true, true, true, false, false, false, false] rfl rfl (by kernel_rfl) (fun _ _ _ h => h) (Or.inl ⟨by rfl, ?_⟩) ?_ ?_
              rotate_left
              · intro w'
                go_simp
                with_reducible rfl
              rotate_left
              · simp only [Act.put, List.setIfInBounds_toArray, List.set_cons_zero, List.set_cons_succ, i64_w, i32_w]
                rfl
              refine one_ (i := 21) (N := some 75) #[true, true, true, true, true, true, true, true, true, true, true, true, true, true, true, true, true, true, true, true, true, true, false, false, false] rfl rfl (by kernel_rfl) (by decide) (fun K hK => ?_)
              refine value_ (v := ?_) (w1 := ?_) (by rfl) rfl ?_ ?_
              rotate_left 2
              · go_simp
                refine ⟨?_, ?_⟩ <;> rfl
              refine hK.out _ _ ⟨cell_alloc_drew_ hHeld.1, cell_alloc_drew_ hHeld.2.1, cell_alloc_drew_ hHeld.2.2.1, cell_alloc_drew_ hHeld.2.2.2⟩ (fun hHeld => ?_)
              clear hK K
              refine norm_ (a' := ?_) ?_ ?_
              rotate_left
              · show Act.put _ (some 75) _ = _
                simp only [Act.put, List.setIfInBounds_toArray, List.set_cons_zero, List.set_cons_succ, i64_w, i32_w]
                rfl
              refine one_ (i := 22) (N := some 76) #[true, true, true, true, true, true, true, true, true, true, true, true, true, true, true, true, true, true, true, true, true, true, true, false, false] rfl rfl (by kernel_rfl) (by decide) (fun K hK => ?_)
              refine step_kid (by rfl) (.tmp 65) (.tmp 75) (by rfl) w.heap.size (.slice Ak ks.length ck) ks b (T.length : Int) wq.heap.size (by rfl) (by rfl) HOK.out (heap_alloc_new wq.drew _) HKL.out HBA.out.size ?_
              intro Av cv w3 hown1 hgrow hat
              have hkeep := HKEEP.out w3 hgrow
              have hfz : w3.frozen? ⟨gK, s, none⟩ = false := hkeep.2
              have hcp1 : w3.cell? ⟨gK, s, none⟩ = some (.slice Ak ks.length ck) := hkeep.1.2.1
              refine hK.out _ _ hkeep.1 (fun hHeld => ?_)
              clear hK K
              refine norm_ (a' := ?_) ?_ ?_
              rotate_left
              · show Act.put _ (some 76) _ = _
                simp only [Act.put, List.setIfInBounds_toArray, List.set_cons_zero, List.set_cons_succ, i64_w, i32_w]
                rfl
              refine pure_ (i := 23) (N := some 77) (v := ?_) (a' := ?_) #[true, true, true, true, true, true, true, true, true, true, true, true, true, true, true, true, true, true, true, true, true, true, true, true, false] rfl rfl (by kernel_rfl) (fun _ _ _ h => h) (Or.inl ⟨by rfl, ?_⟩) ?_ ?_
              rotate_left
              · intro w'
                go_simp
                with_reducible rfl
              rotate_left
              · simp only [Act.put, List.setIfInBounds_toArray, List.set_cons_zero, List.set_cons_succ, i64_w, i32_w]
                rfl
              refine last_ (i := 24) (N := none) #[true, true, true, true, true, true, true, true, true, true, true, true, true, true, true, true, true, true, true, true, true, true, true, true, true] rfl rfl (by kernel_rfl) (by decide) (fun K hK => ?_)
              refine skip_ (w1 := ?_) (by rfl) rfl ?_ ?_
              rotate_left
              · go_simp
                rfl
              refine hK.out _ _ ?_
              clear hK K
              refine done_ (by kernel_rfl) ?_
              have HR4 := Lib.hid (HRq.out.kidPush HSK.out HB15.out (by rw [HKV.out]; exact hgrow) (by rw [HKSS.out]; exact hown1) (by rw [HKV.out]; exact hat) rfl)
              rw [HKSS.out] at HR4
              clear hown1 hgrow hat hkeep hfz hcp1 hHeld HKEEP HB15 HOK HBA HRq HRQ2 k0 k1 k2 k3 k4 HR
              obtain ⟨kv2, hkv2⟩ : ∃ kv2, kv.set s (.slice Av (ks.length + 1) cv) = kv2 := ⟨_, rfl⟩
              obtain ⟨K2, hK2⟩ : ∃ K2, K.set s (ks ++ [(b, (T.length : Int))]) = K2 := ⟨_, rfl⟩
              rw [hkv2, hK2] at HR4
              have HK2E := Lib.hid hK2
              have hKl : K2.length = K.length := by rw [← hK2, List.length_set]
              have HKl2 := Lib.hid hKl
              clear hkv2 hK2 hKl
              rw [← HKl2.out] at HR4
              generalize w3.setCell ⟨gK, s, none⟩ (.slice Av (ks.length + 1) cv) = w4 at HR4 ⊢
              obtain ⟨_, m0, _, _⟩ := HR4.out.cells
              have m1 := cell_below HR4.out.below HRow0.out
              have HB16 : Hid (Below w4.heap.size w4 (w4.drew.alloc (.cells #[.slice (some adp) (k + 1) cp] 32))) := (below_drewN' (Below.refl _ _) 1).alloc (Nat.le_refl _) _
              have HOW : Hid ((w4.drew.alloc (.cells #[.slice (some adp) (k + 1) cp] 32)).ownsRow w.heap.size 32 1 (.slice (some ⟨gW, 0, none⟩) T.length cW) T.length wv) := own_move HR4.out.wown fun k hk => HB16.out.block k (own_lt HR4.out.wown k hk)
              have HBW : Hid (Below w.heap.size w (w4.drew.alloc (.cells #[.slice (some adp) (k + 1) cp] 32))) := HR4.out.below.trans (HB16.out.mono HR4.out.below.size)
              have HTL : Hid (T.length ≤ 1048576) := by have h := HTL2.out; rw [Hid]; omega
              have HKEEP2 : Hid (∀ w5 : World, (w4.drew.alloc (.cells #[.slice (some adp) (k + 1) cp] 32)).grownBy w5 (.slice (some ⟨gW, 0, none⟩) T.length cW : Value).ownBlock →
                  w5.cell? ⟨g, 1, none⟩ = some (.slice (some ⟨gW, 0, none⟩) T.length cW) ∧ w5.frozen? ⟨g, 1, none⟩ = false) := fun w5 hg => by
                have t1 := kept_type HR4.out.wown HB16.out hg HR4.out.blk (by decide)
                exact ⟨cell_block m0 t1, frozen_of_row _ _ _ _ _ (t1.trans HR4.out.blk)⟩
              have hcut := cut_tx (A := some adp) (n := p.length) (c := cp) (k := k + 1) (by omega) HCP.out
              have hcut2 : ∀ W : World, (Instr.slice 32 (.slice (some adp) p.length cp) none (some (.int .i64 ((k : Int) + 1))) none).run Try.prog W = .ok (.slice (some adp) (k + 1) cp) W := fun W => by have := hcut W; rwa [Int.natCast_add] at this
              clear hcut
              go_upto_region 16 with (fail)
              go_wp2_with fail
              refine start_ (n := 17) (S := (fun w' => w'.cell? ⟨g, 1, none⟩ = some (.slice (some ⟨gW, 0, none⟩) T.length cW) ∧ w'.cell? (ad.add i) = some (.slice (some adp) p.length cp))) (ds := [13, 16]) #[false, false, false, false, false, false, false, false, false, false, false, false, false, false, false, false, false] (by kernel_rfl) rfl rfl ?_ (fun hHeld => ?_)
              · exact ⟨m0, m1⟩
              refine pure_ (i := 0) (N := some 78) (v := ?_) (a' := ?_) #[true, false, false, false, false, false, false, false, false, false, false, false, false, false, false, false, false] rfl rfl (by kernel_rfl) (fun _ _ _ h => h) (Or.inl ⟨by rfl, ?_⟩) ?_ ?_
              rotate_left
              · intro w'
                go_simp
                with_reducible rfl
              rotate_left
              · simp only [Act.put, List.setIfInBounds_toArray, List.set_cons_zero, List.set_cons_succ, i64_w, i32_w]
                rfl
              refine pure_ (i := 1) (N := some 79) (v := ?_) (a' := ?_) #[true, true, false, false, false, false, false, false, false, false, false, false, false, false, false, false, false] rfl rfl (by kernel_rfl) (fun _ _ _ h => h) (Or.inl ⟨by rfl, ?_⟩) ?_ ?_
              rotate_left
              · intro w'
                go_simp
                with_reducible rfl
              rotate_left
              · simp only [Act.put, List.setIfInBounds_toArray, List.set_cons_zero, List.set_cons_succ, i64_w, i32_w]
                rfl
              refine pure_ (i := 2) (N := some 80) (v := ?_) (a' := ?_) #[true, true, true, false, false, false, false, false, false, false, false, false, false, false, false, false, false] rfl rfl (by kernel_rfl) (fun _ _ _ h => h) (Or.inl ⟨by rfl, ?_⟩) ?_ ?_
              rotate_left
              · intro w'
                go_simp
                with_reducible rfl
              rotate_left
              · simp only [Act.put, List.setIfInBounds_toArray, List.set_cons_zero, List.set_cons_succ, i64_w, i32_w]
                rfl
              refine pure_ (i := 3) (N := some 81) (v := ?_) (a' := ?_) #[true, true, true, true, false, false, false, false, false, false, false, false, false, false, false, false, false] rfl rfl (by kernel_rfl) (fun _ _ _ h => h) (Or.inl ⟨by rfl, ?_⟩) ?_ ?_
              rotate_left
              · intro w'
                go_simp
                with_reducible rfl
              rotate_left
              · simp only [Act.put, List.setIfInBounds_toArray, List.set_cons_zero, List.set_cons_succ, i64_w, i32_w]
                rfl
              refine take_ (i := 4) (N := some 82) (v := ?_) (a' := ?_) #[true, true, true, true, true, false, false, false, false, false, false, false, false, false, false, false, false] rfl rfl (by kernel_rfl) (fun _ _ _ h => h) (Or.inl ⟨by rfl, ?_⟩) hHeld ?_ ?_
              rotate_left
              · rintro w' ⟨s0, s1⟩
                go_simp
                with_reducible rfl
              rotate_left
              · simp only [Act.put, List.setIfInBounds_toArray, List.set_cons_zero, List.set_cons_succ, i64_w, i32_w]
                rfl
              refine pure_ (i := 5) (N := some 83) (v := ?_) (a' := ?_) #[true, true, true, true, true, true, false, false, false, false, false, false, false, false, false, false, false] rfl rfl (by kernel_rfl) (fun _ _ _ h => h) (Or.inl ⟨by rfl, ?_⟩) ?_ ?_
              rotate_left
              · intro w'
                go_simp
                with_reducible rfl
              rotate_left
              · simp only [Act.put, List.setIfInBounds_toArray, List.set_cons_zero, List.set_cons_succ, i64_w, i32_w]
                rfl
              refine pure_ (i := 6) (N := some 84) (v := ?_) (a' := ?_) #[true, true, true, true, true, true, true, false, false, false, false, false, false, false, false, false, false] rfl rfl (by kernel_rfl) (fun _ _ _ h => h) (Or.inl ⟨by rfl, ?_⟩) ?_ ?_
              rotate_left
              · intro w'
                go_simp
                with_reducible rfl
              rotate_left
              · simp only [Act.put, List.setIfInBounds_toArray, List.set_cons_zero, List.set_cons_succ, i64_w, i32_w]
                rfl
              refine pure_ (i := 7) (N := some 85) (v := ?_) (a' := ?_) #[true, true, true, true, true, true, true, true, false, false, false, false, false, false, false, false, false] rfl rfl (by kernel_rfl) (fun _ _ _ h => h) (Or.inl ⟨by rfl, ?_⟩) ?_ ?_
              rotate_left
              · intro w'
                go_simp
                with_reducible rfl
              rotate_left
              · simp only [Act.put, List.setIfInBounds_toArray, List.set_cons_zero, List.set_cons_succ, i64_w, i32_w]
                rfl
              refine take_ (i := 8) (N := some 86) (v := ?_) (a' := ?_) #[true, true, true, true, true, true, true, true, true, false, false, false, false, false, false, false, false] rfl rfl (by kernel_rfl) (fun _ _ _ h => h) (Or.inl ⟨by rfl, ?_⟩) hHeld ?_ ?_
              rotate_left
              · rintro w' ⟨s0, s1⟩
                go_simp
                with_reducible rfl
              rotate_left
              · simp only [Act.put, List.setIfInBounds_toArray, List.set_cons_zero, List.set_cons_succ, i64_w, i32_w]
                rfl
              refine pure_ (i := 9) (N := some 87) (v := ?_) (a' := ?_) #[true, true, true, true, true, true, true, true, true, true, false, false, false, false, false, false, false] rfl rfl (by kernel_rfl) (fun _ _ _ h => h) (Or.inl ⟨by rfl, ?_⟩) ?_ ?_
              rotate_left
              · intro w'
                go_simp
                with_reducible rfl
              rotate_left
              · simp only [Act.put, List.setIfInBounds_toArray, List.set_cons_zero, List.set_cons_succ, i64_w, i32_w]
                rfl
              refine pure_ (i := 10) (N := some 88) (v := ?_) (a' := ?_) #[true, true, true, true, true, true, true, true, true, true, true, false, false, false, false, false, false] rfl rfl (by kernel_rfl) (fun _ _ _ h => h) (Or.inl ⟨by rfl, ?_⟩) ?_ ?_
              rotate_left
              · intro w'
                go_simp
                with_reducible rfl
              rotate_left
              · simp only [Act.put, List.setIfInBounds_toArray, List.set_cons_zero, List.set_cons_succ, i64_w, i32_w]
                rfl
              refine pure_ (i := 11) (N := some 89) (v := ?_) (a' := ?_) #[true, true, true, true, true, true, true, true, true, true, true, true, false, false, false, false, false] rfl rfl (by kernel_rfl) (fun _ _ _ h => h) (Or.inl ⟨by rfl, ?_⟩) ?_ ?_
              rotate_left
              · intro w'
                go_simp
                with_reducible rfl
              rotate_left
              · simp only [Act.put, List.setIfInBounds_toArray, List.set_cons_zero, List.set_cons_succ, i64_w, i32_w]
                rfl
              refine one_ (i := 12) (N := some 90) #[true, true, true, true, true, true, true, true, true, true, true, true, true, false, false, false, false] rfl rfl (by kernel_rfl) (by decide) (fun K hK => ?_)
              refine value_ (v := ?_) (w1 := ?_) (by rfl) rfl ?_ ?_
              rotate_left 2
              · go_simp
                refine ⟨?_, ?_⟩ <;> rfl
              refine hK.out _ _ ⟨cell_alloc_drew_ hHeld.1, cell_alloc_drew_ hHeld.2⟩ (fun hHeld => ?_)
              clear hK K
              refine norm_ (a' := ?_) ?_ ?_
              rotate_left
              · show Act.put _ (some 90) _ = _
                simp only [Act.put, List.setIfInBounds_toArray, List.set_cons_zero, List.set_cons_succ, i64_w, i32_w]
                rfl
              refine last_ (i := 13) (N := some 91) #[true, true, true, true, true, true, true, true, true, true, true, true, true, true, false, false, false] rfl rfl (by kernel_rfl) (by decide) (fun K hK => ?_)
              refine step_word (by rfl) (.tmp 82) (.tmp 90) (by rfl) w.heap.size (.slice (some ⟨gW, 0, none⟩) T.length cW) T.length wv (.slice (some adp) (k + 1) cp) w4.heap.size (by rfl) (by rfl) HOW.out (heap_alloc_new w4.drew _) rfl HTL.out HBW.out.size ?_
              intro Av2 cv2 w5 hown2 hgrow2
              have hkeep2 := HKEEP2.out w5 hgrow2
              have hfz2 : w5.frozen? ⟨g, 1, none⟩ = false := hkeep2.2
              have hcp2 : w5.cell? ⟨g, 1, none⟩ = some (.slice (some ⟨gW, 0, none⟩) T.length cW) := hkeep2.1
              refine hK.out _ _ ?_
              clear hK K
              refine norm_ (a' := ?_) ?_ ?_
              rotate_left
              · show Act.put _ (some 91) _ = _
                simp only [Act.put, List.setIfInBounds_toArray, List.set_cons_zero, List.set_cons_succ, i64_w, i32_w]
                rfl
              refine pure_ (i := 14) (N := some 92) (v := ?_) (a' := ?_) #[true, true, true, true, true, true, true, true, true, true, true, true, true, true, true, false, false] rfl rfl (by kernel_rfl) (fun _ _ _ h => h) (Or.inl ⟨by rfl, ?_⟩) ?_ ?_
              rotate_left
              · intro w'
                go_simp
                with_reducible rfl
              rotate_left
              · simp only [Act.put, List.setIfInBounds_toArray, List.set_cons_zero, List.set_cons_succ, i64_w, i32_w]
                rfl
              refine pure_ (i := 15) (N := some 93) (v := ?_) (a' := ?_) #[true, true, true, true, true, true, true, true, true, true, true, true, true, true, true, true, false] rfl rfl (by kernel_rfl) (fun _ _ _ h => h) (Or.inl ⟨by rfl, ?_⟩) ?_ ?_
              rotate_left
              · intro w'
                go_simp
                with_reducible rfl
              rotate_left
              · simp only [Act.put, List.setIfInBounds_toArray, List.set_cons_zero, List.set_cons_succ, i64_w, i32_w]
                rfl
              refine last_ (i := 16) (N := none) #[true, true, true, true, true, true, true, true, true, true, true, true, true, true, true, true, true] rfl rfl (by kernel_rfl) (by decide) (fun K hK => ?_)
              refine skip_ (w1 := ?_) (by rfl) rfl ?_ ?_
              rotate_left
              · go_simp
                rfl
              refine hK.out _ _ ?_
              clear hK K
              refine done_ (by kernel_rfl) ?_
              have htl1 : (p.take (k + 1)).length = k + 1 := by rw [List.length_take]; omega
              have HR6 := Lib.hid (HR4.out.wordPush (x := p.take (k + 1)) HB16.out hgrow2 hown2 ⟨some adp, cp, by rw [htl1], by rw [htl1]; have := HCP.out; omega, Kd.C_take HCp.out (by omega)⟩)
              clear hown2 hgrow2 hkeep2 hfz2 hcp2 hHeld HKEEP2 HB16 HOW HBW HR4 m0 m1 hcut2 htl1
              generalize w5.setCell ⟨g, 1, none⟩ (.slice Av2 (T.length + 1) cv2) = w6 at HR6 ⊢
              obtain ⟨_, _, m2, _⟩ := HR6.out.cells
              have HB17 : Hid (Below w6.heap.size w6 (w6.alloc (.cells #[.slice none 0 0] 92))) := (Below.refl _ _).alloc (Nat.le_refl _) _
              have HOK7 : Hid ((w6.alloc (.cells #[.slice none 0 0] 92)).ownsRow w.heap.size 92 1 (.slice (some ⟨gK, 0, none⟩) K2.length cK) K2.length kv2) := own_move HR6.out.kown fun k hk => HB17.out.block k (own_lt HR6.out.kown k hk)
              have HBK : Hid (Below w.heap.size w (w6.alloc (.cells #[.slice none 0 0] 92))) := HR6.out.below.trans (HB17.out.mono HR6.out.below.size)
              have HKL7 : Hid (K2.length ≤ 1048576) := by have h := HTL2.out; rw [Hid, HKl2.out, HK.out.1.len]; omega
              have HKEEP3 : Hid (∀ w7 : World, (w6.alloc (.cells #[.slice none 0 0] 92)).grownBy w7 (.slice (some ⟨gK, 0, none⟩) K2.length cK : Value).ownBlock →
                  w7.cell? ⟨g, 2, none⟩ = some (.slice (some ⟨gK, 0, none⟩) K2.length cK) ∧ w7.frozen? ⟨g, 2, none⟩ = false) := fun w7 hg => by
                have t1 := kept_type HR6.out.kown HB17.out hg HR6.out.blk (by decide)
                exact ⟨cell_block m2 t1, frozen_of_row _ _ _ _ _ (t1.trans HR6.out.blk)⟩
              have HM2 := Lib.hid m2
              go_wp2_with (at_builtin; refine append_kids (.tmp 98) (.tmp 99) rfl rfl w.heap.size (.slice (some ⟨gK, 0, none⟩) K2.length cK) K2.length kv2 w6.heap.size rfl rfl HOK7.out (heap_alloc_new w6 _) HKL7.out HBK.out.size ?_; intro Av3 cv3 w7 hown3 hgrow3; have hkeep3 := HKEEP3.out w7 hgrow3; have hfz3 : w7.frozen? ⟨g, 2, none⟩ = false := hkeep3.2; have hcp3 : w7.cell? ⟨g, 2, none⟩ = some (.slice (some ⟨gK, 0, none⟩) K2.length cK) := hkeep3.1; have HR8 := Lib.hid (HR6.out.kidNew HB17.out hgrow3 hown3); clear hown3 hgrow3 hkeep3 HKEEP3 HB17 HOK7 HBK HR6 m2 HM2)
              have HTn := Lib.hid (kids_add HK.out.1 HK.out.2.1.nodup HK.out.2.1.closed HS.out.1 HIN.out)
              have HTI := Lib.hid (trieI_add HK.out.2.1 HS.out.1 HIN.out)
              have HKLn := Lib.hid (kids_len HK.out.2.2.2 s (b, (T.length : Int)) (T.getD s [] ++ [b]))
              rw [HKSS.out, HK2E.out, HSW.out] at HTn HKLn
              rw [HSW.out] at HTI
              have HT2 : Hid (T ++ [p.take (k + 1)] = layFrom p (k + 1) T0) := by
                have h1 := HT.out
                rw [Hid, layFrom, ← h1, addW, if_neg (by rw [← HSW.out]; exact HIN.out)]
              have HS2 : Hid (T.length < (T ++ [p.take (k + 1)]).length ∧ (T ++ [p.take (k + 1)]).getD T.length [] = p.take (k + 1)) := ⟨by rw [List.length_append]; exact Nat.lt_succ_self _, getD_append_last _ _⟩
              have HL2 : Hid ((T ++ [p.take (k + 1)]).length ≤ 1 + 32 * i + (k + 1)) := by
                have h := HK.out.2.2.1
                rw [Hid, List.length_append]
                show T.length + 1 ≤ _
                omega
              go_roundg (p.length - (k + 1))
              case measure => omega
              case rel => exact ⟨k + 1, T.length, T ++ [p.take (k + 1)], _, _, _, _, _, rfl, by go_num, by omega, Nat.le_refl _, HT2, HS2, HR8, HTn.out, HTI.out, HL2.out, HKLn.out⟩
          · obtain rfl : k = p.length := by omega
            have hT1 : Hid (T = (ps.take (i + 1)).foldl layW [[]]) := by
              rw [Hid, HT.out, HT0.out, fold_succ layW [[]] hlt, HPE.out]; rfl
            have HK2 : Hid (KidsOk T K ∧ TrieI T ∧ T.length ≤ 1 + 32 * (i + 1) ∧ ∀ s, (K.getD s []).length ≤ T.length) := ⟨HK.out.1, HK.out.2.1, by have := HK.out.2.2.1; omega, HK.out.2.2.2⟩
            clear hCp hcp hrow0
            go_wp2
            go_roundg (ps.length - (i + 1))
            case measure => omega
            case rel => exact ⟨i + 1, T, vW, vK, wv, kv, K, by go_num, by omega, Nat.le_refl _, hT1, HR, HK2⟩
      · have hiz : ¬ (i : Int) < (ps.length : Int) := by omega
        obtain rfl : i = ps.length := by omega
        have hT1 := HT0.out
        rw [List.take_length] at hT1
        have HTT := Lib.hid hT1
        have hlen : T0.length ≤ 2100 := by have h1 := HK.out.2.2.1; have h2 := HCZ.out.2.1; omega
        have HLN := Lib.hid hlen
        clear hT1 hlen
        go_wp2
        go_ret2
        refine ⟨HR.out.below, .inr ⟨HZ.out, g, rfl, vW, vK, wv, kv, K, ?_⟩⟩
        have e : trie ps = T0 := HTT.out.symm
        rw [e]
        exact ⟨HR.out, HK.out.1, HK.out.2.1, HLN.out⟩
  · have hzn : (z != 0) = true := by rw [bne_iff_ne]; exact h0
    have HZ0 := Lib.hid h0
    clear h0
    go_wp2
    go_ret2
    exact ⟨B1.out, .inl ⟨by rw [HZ.out]; exact HZ0.out, by rw [HZ.out]; rfl⟩⟩
end Go.Proofs.Ytdciniefkodeaaa.PAll
