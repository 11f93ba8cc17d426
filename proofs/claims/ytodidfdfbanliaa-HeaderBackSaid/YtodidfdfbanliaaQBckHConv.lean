/- '[]byte(s)' of a text that is no constant: a row that is read alone. -/
import Derived.Test.YtodidfdfbanliaaQBckPAllx0
import Derived.Test.YtodidfdfbanliaaQBckHWords
set_option linter.unusedVariables false
namespace Go.Proofs.Ytodidfdfbanliaa.PAll
open Go.RowKit Go.Proofs.YtodidfdfbanliaaW.PrintWords Go.Proofs.YtodidfdfbanliaaW.PrintLast Go.Proofs.YtodidfdfbanliaaW.PrintMore
def CV (w : World) (v : Value) (xs : List Int) : Prop := ∃ A c, v = .slice A xs.length c ∧ xs.length ≤ c ∧ Kd.C (Kd.int .u8) w A xs.length xs
theorem CV_slice {w : World} {v : Value} {xs : List Int} (h : CV w v xs) : ∃ A c, v = .slice A xs.length c := by obtain ⟨A, c, e, _⟩ := h; exact ⟨A, c, e⟩
theorem CV_reads {w : World} {A : Option Addr} {n c : Nat} {xs : List Int} (h : CV w (.slice A n c) xs) : n = xs.length ∧ n ≤ c ∧ Kd.C (Kd.int .u8) w A xs.length xs := by
  obtain ⟨A', c', e, h1, h2⟩ := h
  injection e with e1 e2 e3
  subst e1 e2 e3
  exact ⟨rfl, h1, h2⟩
theorem CV_below {w w1 : World} {v : Value} {xs : List Int} (h : CV w v xs) (hb : Below w.heap.size w w1) : CV w1 v xs := by
  obtain ⟨A, c, e, h1, h2⟩ := h
  exact ⟨A, c, e, h1, Kd.C_below h2 hb⟩
theorem CV_drewN {w : World} {v : Value} {xs : List Int} (h : CV w v xs) (n : Nat) : CV (w.drewN n) v xs := CV_below h (pw_below_drewN (Below.refl _ _) n)
theorem conv_at (s : ByteArray) (W : World) : (convert 9 22 (.string s)).run Try.prog W = .ok (.slice (some ⟨W.heap.size, 0, none⟩) s.size (grownCap W s.size 0 5)) (Lib.bytesWorld W 5 s) :=
  print_bytes (P := Try.prog) 9 22 5 Try.underlying9 Try.underlying22 Try.underlying5 s W
theorem CV_new (W : World) (s : ByteArray) (hs : s.size ≤ 9223372036854775807) : CV (Lib.bytesWorld W 5 s) (.slice (some ⟨W.heap.size, 0, none⟩) s.size (grownCap W s.size 0 5)) (bytesOf s) :=
  ⟨_, _, by rw [bytesOf_length], by rw [bytesOf_length]; exact grownCap_ge W s.size 0 5, by rw [bytesOf_length]; exact Kd.C_of_reads (d := (0 : Int)) (h1 := fun _ => rfl) (bytes_reads W 5 s hs)⟩
theorem CV_event {ops : Array Oper} {rest : List Oper} {o : Oper} {a : Act} {Q : Exit → Act → World → Prop} {W : World} (hgd : o.guard = none) {N : Tmp} (_hd : o.dst = some N) (s : ByteArray) (hs : s.size ≤ 9223372036854775807)
    (hrun : (execOp a.eval o).run Try.prog W = .ok (.value (.slice (some ⟨W.heap.size, 0, none⟩) s.size (grownCap W s.size 0 5))) (Lib.bytesWorld W 5 s))
    (h : ∀ v1 w1, CV w1 v1 (bytesOf s) → Below W.heap.size W w1 → wpList Try.prog ops Q rest (a.put o.dst v1) w1) : wpList Try.prog ops Q (o :: rest) a W :=
  Kd.event_run hgd hrun (h _ _ (CV_new W s hs) (bytes_below (Below.refl _ _) (Nat.le_refl _) 5 s))
end Go.Proofs.Ytodidfdfbanliaa.PAll
