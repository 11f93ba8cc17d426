/- HeaderSteps: the reader, a byte at a time, beside what the reference says. -/
import Derived.Test.YtodidfdfbanliaaQStpFqWhole
set_option linter.unusedVariables false
set_option linter.unusedSimpArgs false
namespace Go.Proofs.Ytodidfdfbanliaa.PAll.Fq
open Go.RowKit Go.Proofs.YtodidfdfbanliaaW.PrintWords Go.Proofs.YtodidfdfbanliaaW.PrintLast Go.Proofs.Ytodidfdfbanliaa.PAll
theorem ofGo_ge (most : Int) (l : List Int) : ∀ (L : List Int) (fs : List S42) (i : Nat), (i : Int) ≤ (ofGo most l L fs i).2.2 := by
  induction l with
  | nil => intro L fs i; rw [ofGo]; split; exact Int.le_refl _; split <;> exact Int.le_refl _
  | cons c t ih =>
    intro L fs i
    have ih1 := fun L fs => ih L fs (i + 1)
    rw [ofGo]
    split
    · exact Int.le_refl _
    · split
      · have := ih1 (L ++ [c]) fs; omega
      · split
        · exact Int.le_refl _
        · split
          · have := ih1 [] (lineR fs (strOfNums (stripCR L))).1; omega
          · exact Int.le_refl _
/-- What Put answers at byte i. -/
def dnR (l : List Int) (most i : Nat) : Bool := decide ((ofR l most).2.2 ≤ (i : Int)) && decide ((ofR l most).2.1 = 0)
def wyR (l : List Int) (most i : Nat) : Int := if (ofR l most).2.2 ≤ (i : Int) then (ofR l most).2.1 else 0
def SOpen (ps : List (Nat × Obj)) (most : Nat) (l : List Int) (w : World) (base b i : Nat) (wr : World) : Prop := ∃ vl L vf fs, WhInv most l w base b i vl L vf fs wr ∧ Pr ps wr b vl vf
def SDone (ps : List (Nat × Obj)) (most : Nat) (l : List Int) (w : World) (base b i : Nat) (wr : World) : Prop := ∃ (n : Int) (vl : Value) (L : List Int) (vf : Value) (fs : List S42) (a : Int), a < (i : Int) ∧ RdQ ps wr base b most n vl L vf fs true 0 ∧ fs.length ≤ 64 ∧ ofR l most = (fs, 0, a) ∧ Below base w wr
def SStop (ps : List (Nat × Obj)) (most : Nat) (l : List Int) (w : World) (base b i : Nat) (wr : World) : Prop := ∃ (n : Int) (vl : Value) (L : List Int) (vf : Value) (fs : List S42) (why a : Int), a < (i : Int) ∧ why ≠ 0 ∧ RdQ ps wr base b most n vl L vf fs false why ∧ ofR l most = ([], why, a) ∧ Below base w wr
/-- The reader behind i bytes. -/
def SInv (ps : List (Nat × Obj)) (most : Nat) (l : List Int) (w : World) (base b i : Nat) (wr : World) : Prop := SOpen ps most l w base b i wr ∨ SDone ps most l w base b i wr ∨ SStop ps most l w base b i wr
section
variable {ps : List (Nat × Obj)} {most : Nat} {l : List Int} {w wr w1 : World} {base b i : Nat}
theorem WhInv.below' {vl vf : Value} {L : List Int} {fs : List S42} (h : WhInv most l w base b i vl L vf fs wr) (hb : Below wr.heap.size wr w1) : WhInv most l w base b i vl L vf fs w1 := by
  obtain ⟨h1, h2, h3, h4, h5, hgo, hfit, h64⟩ := h
  exact ⟨h1, h2, h3.below hb, h4.trans (hb.mono (Nat.le_trans h3.1 (Nat.le_of_lt h3.lt))), h5, hgo, hfit, h64⟩
theorem SInv.below (h : SInv ps most l w base b i wr) (hb : Below wr.heap.size wr w1) : SInv ps most l w base b i w1 := by
  rcases h with ⟨vl, L, vf, fs, hw, hp⟩ | ⟨n, vl, L, vf, fs, a, ha, hr, h64, ho, hB⟩ | ⟨n, vl, L, vf, fs, why, a, ha, hy, hr, ho, hB⟩
  · exact .inl ⟨vl, L, vf, fs, WhInv.below' hw hb, hp.below hb⟩
  · exact .inr (.inl ⟨n, vl, L, vf, fs, a, ha, hr.below hb, h64, ho, hB.trans (hb.mono (Nat.le_trans hr.1 (Nat.le_of_lt hr.lt)))⟩)
  · exact .inr (.inr ⟨n, vl, L, vf, fs, why, a, ha, hy, hr.below hb, ho, hB.trans (hb.mono (Nat.le_trans hr.1 (Nat.le_of_lt hr.lt)))⟩)
theorem SInv.rd (h : SInv ps most l w base b i wr) : ∃ (n : Int) (vl : Value) (L : List Int) (vf : Value) (fs : List S42) (d : Bool) (why : Int), RdQ ps wr base b most n vl L vf fs d why ∧ Below base w wr := by
  rcases h with ⟨vl, L, vf, fs, hw, hp⟩ | ⟨n, vl, L, vf, fs, a, ha, hr, h64, ho, hB⟩ | ⟨n, vl, L, vf, fs, why, a, ha, hy, hr, ho, hB⟩
  · exact ⟨_, _, _, _, _, _, _, .of hw.2.2.1 hp, hw.2.2.2.1⟩
  · exact ⟨_, _, _, _, _, _, _, hr, hB⟩
  · exact ⟨_, _, _, _, _, _, _, hr, hB⟩
theorem wh_on {vl vf : Value} {L : List Int} {fs : List S42} (h : WhInv most l w base b (i + 1) vl L vf fs w1) : dnR l most i = false ∧ wyR l most i = 0 := by
  obtain ⟨h1, h2, h3, h4, h5, hgo, hfit, h64⟩ := h
  have hge : ((i + 1 : Nat) : Int) ≤ (ofR l most).2.2 := by rw [← hgo]; exact ofGo_ge _ _ _ _ _
  unfold dnR wyR
  rw [if_neg (by omega), decide_eq_false (by omega), Bool.false_and]
  exact ⟨rfl, rfl⟩
/-- Put at byte i. -/
theorem step_put (hm : most ≤ 65536) (hi : i < l.length) (h : SInv ps most l w base b i wr) :
    Calls Try.prog 34 #[.pointer (some ⟨b, 0, none⟩), .int .u8 (l[i]'hi)] wr fun e w' => e = .returned (.tuple #[.bool (dnR l most i), .int .i64 (wyR l most i)]) ∧ SInv ps most l w base b (i + 1) w' := by
  rcases h with ⟨vl, L, vf, fs, hw, hp⟩ | ⟨n, vl, L, vf, fs, a, ha, hr, h64, ho, hB⟩ | ⟨n, vl, L, vf, fs, why, a, ha, hy, hr, ho, hB⟩
  · have hq : RdQ ps wr base b most (i : Int) vl L vf fs false 0 := .of hw.2.2.1 hp
    have hB := hw.2.2.2.1
    have hLi := hw.2.2.2.2.1
    have h64 := hw.2.2.2.2.2.2.2
    have him := hw.2.1
    by_cases hf : i = most
    · have ho := hw.full hi hf
      have hq2 : RdQ ps wr base b most most vl L vf fs false 0 := by rw [hf] at hq; exact hq
      refine (put_full base b most vl L vf fs _ wr hq2).mono ?_
      rintro e w' ⟨rfl, hr, hb⟩
      refine ⟨by simp [dnR, wyR, ho], .inr (.inr ⟨_, _, _, _, _, 31, _, by omega, by decide, hr, ho, hB.trans hb⟩)⟩
    · have hne : (i : Int) ≠ (most : Int) := by omega
      by_cases hc : l[i]'hi = 10
      · have hsz := hw.sizes hm
        have hpn := put_nl base b most (i : Int) vl L vf fs wr hq hne (by omega) (by omega) (by omega) h64 hsz
        rw [hc]
        by_cases hs : stripCR L = []
        · rw [if_pos hs] at hpn
          have ho := hw.done hi hf hc hs
          refine hpn.mono ?_
          rintro e w' ⟨rfl, ⟨vl', hr⟩, hb⟩
          exact ⟨by simp [dnR, wyR, ho], .inr (.inl ⟨_, _, _, _, _, _, by omega, hr, by rw [trimF_len]; exact h64, ho, hB.trans hb⟩)⟩
        · rw [if_neg hs] at hpn
          by_cases hy : (lineR fs (strOfNums (stripCR L))).2 = 0
          · refine hpn.mono ?_
            rintro e w' ⟨rfl, ⟨vl', vf', hr⟩, hb⟩
            have hn := hw.next hi hf hc hs hy hr.rd hb
            obtain ⟨e1, e2⟩ := wh_on hn
            rw [e1, e2, hy]
            exact ⟨rfl, .inl ⟨_, _, _, _, hn, hr.pr⟩⟩
          · have ho := hw.bad hi hf hc hs hy
            refine hpn.mono ?_
            rintro e w' ⟨rfl, ⟨vl', vf', hr⟩, hb⟩
            exact ⟨by simp [dnR, wyR, ho, hy], .inr (.inr ⟨_, _, _, _, _, _, _, by omega, hy, hr, ho, hB.trans hb⟩)⟩
      · refine (put_byte base b most (i : Int) vl L vf fs _ wr hq hne (by omega) (by omega) hc (by omega)).mono ?_
        rintro e w' ⟨rfl, vl', hr, hb⟩
        have hn := hw.byte hi hf hc hr.rd hb
        obtain ⟨e1, e2⟩ := wh_on hn
        rw [e1, e2]
        exact ⟨rfl, .inl ⟨_, _, _, _, hn, hr.pr⟩⟩
  · refine (put_done_ base b most n vl L vf fs 0 _ wr hr).mono ?_
    rintro e w' ⟨rfl, hr', hb⟩
    refine ⟨by simp [dnR, wyR, ho, Int.le_of_lt ha], .inr (.inl ⟨_, _, _, _, _, a, by omega, hr', h64, ho, hB.trans hb⟩)⟩
  · refine (put_stopped base b most n vl L vf fs why hy _ wr hr).mono ?_
    rintro e w' ⟨rfl, hr', hb⟩
    refine ⟨by simp [dnR, wyR, ho, Int.le_of_lt ha, hy], .inr (.inr ⟨_, _, _, _, _, why, a, by omega, hy, hr', ho, hB.trans hb⟩)⟩
/-- Fields of a reader that is not done. -/
theorem step_fields (h : SInv ps most l w base b (i + 1) wr) (hd : dnR l most i = false) : Calls Try.prog 36 #[.pointer (some ⟨b, 0, none⟩)] wr fun e w' => e = .returned (.slice none 0 0) ∧ SInv ps most l w base b (i + 1) w' := by
  have key : ∃ (n : Int) (vl : Value) (L : List Int) (vf : Value) (fs : List S42) (why : Int), RdAt wr base b most n vl L vf fs false why := by
    rcases h with ⟨vl, L, vf, fs, hw, hp⟩ | ⟨n, vl, L, vf, fs, a, ha, hr, h64, ho, hB⟩ | ⟨n, vl, L, vf, fs, why, a, ha, hy, hr, ho, hB⟩
    · exact ⟨_, _, _, _, _, _, hw.2.2.1⟩
    · have ha2 : a ≤ (i : Int) := by omega
      simp [dnR, ho, ha2] at hd
    · exact ⟨_, _, _, _, _, _, hr.rd⟩
  obtain ⟨n, vl, L, vf, fs, why, hr⟩ := key
  refine (fields_not base b most n vl L vf fs why wr hr).mono ?_
  rintro e w' ⟨rfl, hb⟩
  exact ⟨rfl, h.below hb⟩
/-- The reader behind End. -/
def EInv (ps : List (Nat × Obj)) (most : Nat) (l : List Int) (w : World) (base b : Nat) (wr : World) : Prop :=
  Below base w wr ∧ ((∃ (n : Int) (vl : Value) (L : List Int) (vf : Value) (fs : List S42), RdQ ps wr base b most n vl L vf fs true 0 ∧ fs.length ≤ 64 ∧ (ofR l most).1 = fs ∧ (ofR l most).2.1 = 0) ∨
    (∃ (n : Int) (vl : Value) (L : List Int) (vf : Value) (fs : List S42) (why : Int), why ≠ 0 ∧ RdQ ps wr base b most n vl L vf fs false why ∧ (ofR l most).1 = [] ∧ (ofR l most).2.1 = why))
theorem EInv.below (h : EInv ps most l w base b wr) (hb : Below wr.heap.size wr w1) : EInv ps most l w base b w1 := by
  obtain ⟨hB, ⟨n, vl, L, vf, fs, hr, h64, h1, h2⟩ | ⟨n, vl, L, vf, fs, why, hy, hr, h1, h2⟩⟩ := h
  · exact ⟨hB.trans (hb.mono (Nat.le_trans hr.1 (Nat.le_of_lt hr.lt))), .inl ⟨n, vl, L, vf, fs, hr.below hb, h64, h1, h2⟩⟩
  · exact ⟨hB.trans (hb.mono (Nat.le_trans hr.1 (Nat.le_of_lt hr.lt))), .inr ⟨n, vl, L, vf, fs, why, hy, hr.below hb, h1, h2⟩⟩
theorem EInv.pr (h : EInv ps most l w base b wr) : ∀ x ∈ ps, wr.heap[x.1]? = some x.2 := by
  obtain ⟨hB, ⟨n, vl, L, vf, fs, hr, h64, h1, h2⟩ | ⟨n, vl, L, vf, fs, why, hy, hr, h1, h2⟩⟩ := h
  · exact fun x hx => (hr.pr x hx).1
  · exact fun x hx => (hr.pr x hx).1
theorem SInv.pr (h : SInv ps most l w base b i wr) : ∀ x ∈ ps, wr.heap[x.1]? = some x.2 := by
  obtain ⟨_, _, _, _, _, _, _, hr, _⟩ := h.rd
  exact fun x hx => (hr.pr x hx).1
theorem step_end (hm : most ≤ 65536) (h : SInv ps most l w base b l.length wr) : Calls Try.prog 37 #[.pointer (some ⟨b, 0, none⟩)] wr fun e w' => e = .returned (.int .i64 (ofR l most).2.1) ∧ EInv ps most l w base b w' := by
  rcases h with ⟨vl, L, vf, fs, hw, hp⟩ | ⟨n, vl, L, vf, fs, a, ha, hr, h64, ho, hB⟩ | ⟨n, vl, L, vf, fs, why, a, ha, hy, hr, ho, hB⟩
  · have hq : RdQ ps wr base b most (l.length : Int) vl L vf fs false 0 := .of hw.2.2.1 hp
    have hB := hw.2.2.2.1
    have h64 := hw.2.2.2.2.2.2.2
    have hLi := hw.2.2.2.2.1
    have him := hw.2.1
    have hsz := hw.sizes hm
    by_cases hL : L = []
    · subst hL
      have ho := hw.last_none
      refine (end_none base b most _ vl vf fs wr hq (fun f hf => by have := hsz f hf; omega)).mono ?_
      rintro e w' ⟨rfl, hr, hb⟩
      exact ⟨by rw [ho], hB.trans hb, .inl ⟨_, _, _, _, _, hr, by rw [trimF_len]; exact h64, by rw [ho], by rw [ho]⟩⟩
    · have ho := hw.last_line hL
      have hall := hw.all hm
      refine (end_line base b most _ vl L vf fs wr hL (by omega) hq h64 hsz hall).mono ?_
      rintro e w' ⟨rfl, ⟨vl', vf', hr⟩, hb⟩
      by_cases hy : (lineR fs (strOfNums L)).2 = 0
      · rw [if_pos hy] at ho hr
        rw [hy] at hr ⊢
        exact ⟨by rw [ho], hB.trans hb, .inl ⟨_, _, _, _, _, hr, by rw [trimF_len]; exact lineR_le _ _ h64, by rw [ho], by rw [ho]⟩⟩
      · rw [if_neg hy] at ho hr
        rw [decide_eq_false hy] at hr
        exact ⟨by rw [ho], hB.trans hb, .inr ⟨_, _, _, _, _, _, hy, hr, by rw [ho], by rw [ho]⟩⟩
  · refine (end_done base b most n vl L vf fs 0 wr hr).mono ?_
    rintro e w' ⟨rfl, hr', hb⟩
    exact ⟨by rw [ho], hB.trans hb, .inl ⟨_, _, _, _, _, hr', h64, by rw [ho], by rw [ho]⟩⟩
  · refine (end_why base b most n vl L vf fs why hy wr hr).mono ?_
    rintro e w' ⟨rfl, hr', hb⟩
    exact ⟨by rw [ho], hB.trans hb, .inr ⟨_, _, _, _, _, _, hy, hr', by rw [ho], by rw [ho]⟩⟩
theorem step_end2 (h : EInv ps most l w base b wr) : Calls Try.prog 37 #[.pointer (some ⟨b, 0, none⟩)] wr fun e w' => e = .returned (.int .i64 (ofR l most).2.1) ∧ EInv ps most l w base b w' := by
  obtain ⟨hB, ⟨n, vl, L, vf, fs, hr, h64, h1, h2⟩ | ⟨n, vl, L, vf, fs, why, hy, hr, h1, h2⟩⟩ := h
  · refine (end_done base b most n vl L vf fs 0 wr hr).mono ?_
    rintro e w' ⟨rfl, hr', hb⟩
    exact ⟨by rw [h2], hB.trans hb, .inl ⟨_, _, _, _, _, hr', h64, h1, h2⟩⟩
  · refine (end_why base b most n vl L vf fs why hy wr hr).mono ?_
    rintro e w' ⟨rfl, hr', hb⟩
    exact ⟨by rw [h2], hB.trans hb, .inr ⟨_, _, _, _, _, _, hy, hr', h1, h2⟩⟩
theorem step_fields2 (h : EInv ps most l w base b wr) : Calls Try.prog 36 #[.pointer (some ⟨b, 0, none⟩)] wr fun e w' => ∃ v', e = .returned v' ∧ OwnF w' wr.heap.size v' (ofR l most).1 ∧ Below wr.heap.size wr w' ∧ EInv ps most l w base b w' := by
  have h0 := h
  obtain ⟨hB, ⟨n, vl, L, vf, fs, hr, h64, h1, h2⟩ | ⟨n, vl, L, vf, fs, why, hy, hr, h1, h2⟩⟩ := h
  · refine (fields_done base b most n vl L vf fs 0 h64 wr hr.rd).mono ?_
    rintro e w' ⟨v', rfl, ho, hb⟩
    exact ⟨_, rfl, by rw [h1]; exact ho, hb, h0.below hb⟩
  · refine (fields_not base b most n vl L vf fs why wr hr.rd).mono ?_
    rintro e w' ⟨rfl, hb⟩
    exact ⟨_, rfl, by rw [h1]; exact own_nil _ _ _ _, hb, h0.below hb⟩
theorem step_put2 (c : Int) (h : EInv ps most l w base b wr) : Calls Try.prog 34 #[.pointer (some ⟨b, 0, none⟩), .int .u8 c] wr fun e w' => e = .returned (.tuple #[.bool (decide ((ofR l most).2.1 = 0)), .int .i64 (ofR l most).2.1]) ∧ EInv ps most l w base b w' := by
  obtain ⟨hB, ⟨n, vl, L, vf, fs, hr, h64, h1, h2⟩ | ⟨n, vl, L, vf, fs, why, hy, hr, h1, h2⟩⟩ := h
  · refine (put_done_ base b most n vl L vf fs 0 c wr hr).mono ?_
    rintro e w' ⟨rfl, hr', hb⟩
    exact ⟨by rw [h2]; rfl, hB.trans hb, .inl ⟨_, _, _, _, _, hr', h64, h1, h2⟩⟩
  · refine (put_stopped base b most n vl L vf fs why hy c wr hr).mono ?_
    rintro e w' ⟨rfl, hr', hb⟩
    exact ⟨by rw [h2, decide_eq_false hy], hB.trans hb, .inr ⟨_, _, _, _, _, _, hy, hr', h1, h2⟩⟩
end
end Go.Proofs.Ytodidfdfbanliaa.PAll.Fq
