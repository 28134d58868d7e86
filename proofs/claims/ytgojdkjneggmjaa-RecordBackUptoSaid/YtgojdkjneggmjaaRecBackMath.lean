/-
  THE PLAIN LAWS of what is laid down and read again.
-/
import Derived.Test.YtgojdkjneggmjaaRec22
namespace Go.Proofs.Ytgojdkjneggmjaa
open Go.RowKit FieldM
theorem getL_mid (pre post : List UInt8) (z k p : Nat) (hp : pre.length = p) : getL (pre ++ (leB z k ++ post)) (p : Int) (k : Int) = ((z % 256 ^ k : Nat) : Int) := by
  subst hp
  unfold getL pieceL
  have hl : (pre ++ (leB z k ++ post)).length = pre.length + k + post.length := by simp only [List.length_append, leB_len]; omega
  rw [if_pos (cutErr_ok (by rw [hl]; omega) (by rw [hl]; omega))]
  simp only [Int.toNat_natCast, List.drop_left]
  rw [List.take_left' (leB_len z k), le_leB]
theorem mod_small {z : Int} {k : Nat} (h0 : 0 ≤ z) (h1 : z < (256 : Int) ^ k) : ((z.toNat % 256 ^ k : Nat) : Int) = z := by
  have h2 : z.toNat < 256 ^ k := by
    have h3 : ((z.toNat : Nat) : Int) < ((256 ^ k : Nat) : Int) := by
      rw [Int.toNat_of_nonneg h0]; simpa using h1
    exact Int.ofNat_lt.1 h3
  rw [Nat.mod_eq_of_lt h2, Int.toNat_of_nonneg h0]
theorem look_ahead (ahead x : List UInt8) (long : Nat) (h : long ≤ x.length) : lookX (ahead ++ x) (ahead.length : Int) (long : Int) = x ∧ cutErr ((ahead ++ x).length : Nat) (ahead.length : Int) (long : Int) = 0 := by
  have h1 : cutErr ((ahead ++ x).length : Nat) (ahead.length : Int) (long : Int) = 0 := cutErr_ok (by rw [List.length_append]; omega) (by rw [List.length_append]; omega)
  refine ⟨?_, h1⟩
  unfold lookX
  rw [if_pos h1]; simp
/-! ### The end -/
section
variable (c s a : Int) (more : List UInt8)
theorem end_form : endL c s a ++ more = [80, 75, 5, 6] ++ (leB 0 2 ++ (leB 0 2 ++ (leB c.toNat 2 ++ (leB c.toNat 2 ++ (leB s.toNat 4 ++ (leB a.toNat 4 ++ (leB 0 2 ++ more))))))) := by
  simp [endL, lay]
theorem endL_len : (endL c s a).length = 22 := by simp [endL, lay, leB_len]
variable {c s a}
theorem end_read (h : EndOk c s a) (ahead : List UInt8) :
    readEF (ahead ++ (endL c s a ++ more)) (ahead.length : Int) = 0 ∧ readE (ahead ++ (endL c s a ++ more)) (ahead.length : Int) 8 2 = c ∧ readE (ahead ++ (endL c s a ++ more)) (ahead.length : Int) 12 4 = s ∧ readE (ahead ++ (endL c s a ++ more)) (ahead.length : Int) 16 4 = a := by
  obtain ⟨⟨h1, h2⟩, ⟨h3, h4⟩, ⟨h5, h6⟩⟩ := h
  obtain ⟨hx, hc⟩ := look_ahead ahead (endL c s a ++ more) 22 (by rw [List.length_append, endL_len]; omega)
  have e4 : getL (endL c s a ++ more) 4 2 = 0 := by rw [end_form]; have := getL_mid [80, 75, 5, 6] (leB 0 2 ++ (leB c.toNat 2 ++ (leB c.toNat 2 ++ (leB s.toNat 4 ++ (leB a.toNat 4 ++ (leB 0 2 ++ more)))))) 0 2 4 rfl; simpa using this
  have e6 : getL (endL c s a ++ more) 6 2 = 0 := by rw [end_form]; have := getL_mid ([80, 75, 5, 6] ++ leB 0 2) (leB c.toNat 2 ++ (leB c.toNat 2 ++ (leB s.toNat 4 ++ (leB a.toNat 4 ++ (leB 0 2 ++ more))))) 0 2 6 rfl; simp only [List.append_assoc] at this; exact this
  have e8 : getL (endL c s a ++ more) 8 2 = c := by rw [end_form]; have := getL_mid ([80, 75, 5, 6] ++ (leB 0 2 ++ leB 0 2)) (leB c.toNat 2 ++ (leB s.toNat 4 ++ (leB a.toNat 4 ++ (leB 0 2 ++ more)))) c.toNat 2 8 rfl; simp only [List.append_assoc] at this; rw [mod_small h1 (by omega)] at this; exact this
  have e10 : getL (endL c s a ++ more) 10 2 = c := by rw [end_form]; have := getL_mid ([80, 75, 5, 6] ++ (leB 0 2 ++ (leB 0 2 ++ leB c.toNat 2))) (leB s.toNat 4 ++ (leB a.toNat 4 ++ (leB 0 2 ++ more))) c.toNat 2 10 rfl; simp only [List.append_assoc] at this; rw [mod_small h1 (by omega)] at this; exact this
  have e12 : getL (endL c s a ++ more) 12 4 = s := by rw [end_form]; have := getL_mid ([80, 75, 5, 6] ++ (leB 0 2 ++ (leB 0 2 ++ (leB c.toNat 2 ++ leB c.toNat 2)))) (leB a.toNat 4 ++ (leB 0 2 ++ more)) s.toNat 4 12 rfl; simp only [List.append_assoc] at this; rw [mod_small h3 (by omega)] at this; exact this
  have e16 : getL (endL c s a ++ more) 16 4 = a := by rw [end_form]; have := getL_mid ([80, 75, 5, 6] ++ (leB 0 2 ++ (leB 0 2 ++ (leB c.toNat 2 ++ (leB c.toNat 2 ++ leB s.toNat 4))))) (leB 0 2 ++ more) a.toNat 4 16 rfl; simp only [List.append_assoc] at this; rw [mod_small h5 (by omega)] at this; exact this
  have e20 : getL (endL c s a ++ more) 20 2 = 0 := by rw [end_form]; have := getL_mid ([80, 75, 5, 6] ++ (leB 0 2 ++ (leB 0 2 ++ (leB c.toNat 2 ++ (leB c.toNat 2 ++ (leB s.toNat 4 ++ leB a.toNat 4)))))) more 0 2 20 rfl; simp only [List.append_assoc] at this; exact this
  have hF : readEF (ahead ++ (endL c s a ++ more)) (ahead.length : Int) = 0 := by
    refine readEF_ok hc ?_ ?_ ?_
    · show (lookX _ _ ((22 : Nat) : Int)).take 4 = _
      rw [hx, end_form]; rfl
    · show allZ (lookX _ _ ((22 : Nat) : Int)) _ = _
      rw [hx]; simp [allZ, e4, e6, e20]
    · show (getL (lookX _ _ ((22 : Nat) : Int)) 8 2 == getL (lookX _ _ ((22 : Nat) : Int)) 10 2) = true
      rw [hx, e8, e10]; simp
  refine ⟨hF, ?_, ?_, ?_⟩
  · unfold readE; rw [if_pos hF]; show getL (lookX _ _ ((22 : Nat) : Int)) 8 2 = c; rw [hx, e8]
  · unfold readE; rw [if_pos hF]; show getL (lookX _ _ ((22 : Nat) : Int)) 12 4 = s; rw [hx, e12]
  · unfold readE; rw [if_pos hF]; show getL (lookX _ _ ((22 : Nat) : Int)) 16 4 = a; rw [hx, e16]
end
theorem end_short (l : List UInt8) (h : l.length = 21) : readEF l 0 = 4 := by
  have h1 : cutErr l.length 0 22 = 4 := by rw [h]; rfl
  rw [readEF_err (by rw [h1]; decide), h1]
end Go.Proofs.Ytgojdkjneggmjaa
