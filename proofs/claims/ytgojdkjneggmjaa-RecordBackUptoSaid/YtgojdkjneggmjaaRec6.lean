/-
  THE WALK of the reference's End.
-/
import Derived.Test.YtgojdkjneggmjaaRec5
namespace Go.Proofs.Ytgojdkjneggmjaa
open Go.RowKit FieldM
set_option linter.unusedSimpArgs false
def EndOk (c s a : Int) : Prop := (0 ≤ c ∧ c ≤ 65535) ∧ (0 ≤ s ∧ s ≤ 4294967295) ∧ (0 ≤ a ∧ a ≤ 4294967295)
/-- an archive's end -/
def endL (c s a : Int) : List UInt8 := [80, 75, 5, 6] ++ lay 2 [0, 0, c, c] ++ lay 4 [s, a] ++ lay 2 [0]
theorem two_nat (n : Nat) (z : Int) (hz : z = n) (hn : n ≤ 9223372036854775807) (w : World) :
    Calls Try.prog 28 #[.int .i64 z] w fun e w' => e = .returned (.string ⟨(leB n 2).toArray⟩) ∧ Chg NoB w w' := by
  subst hz
  have h := two_any (n : Int) (show 0 ≤ (n : Int) ∧ (n : Int) ≤ 9223372036854775807 by omega) w
  simpa using h
theorem four_nat (n : Nat) (z : Int) (hz : z = n) (hn : n ≤ 9223372036854775807) (w : World) :
    Calls Try.prog 32 #[.int .i64 z] w fun e w' => e = .returned (.string ⟨(leB n 4).toArray⟩) ∧ Chg NoB w w' := by
  subst hz
  have h := four_any (n : Int) (show 0 ≤ (n : Int) ∧ (n : Int) ≤ 9223372036854775807 by omega) w
  simpa using h
set_option maxRecDepth 100000 in
set_option maxHeartbeats 4000000 in
theorem rend_any (c s a : Int) (w : World) :
    Calls Try.prog 18 #[.int .i64 c, .int .i64 s, .int .i64 a] w fun e w' => ((EndOk c s a ∧ e = .returned (.tuple #[.string ⟨(endL c s a).toArray⟩, .int .i64 0])) ∨ (¬ EndOk c s a ∧ e = .returned (.tuple #[.string ⟨#[]⟩, .int .i64 2]))) ∧ Chg NoB w w' := by
  have hcc : Chg NoB w w := Chg.refl _ _
  by_cases hok : EndOk c s a
  · obtain ⟨⟨h1, h2⟩, ⟨h3, h4⟩, ⟨h5, h6⟩⟩ := id hok
    have HOK := Lib.hid hok
    clear hok
    obtain ⟨mk, hmk⟩ : ∃ mk : List UInt8, mk = [80, 75, 5, 6] := ⟨_, rfl⟩
    have HMK := Lib.hid hmk
    have a0 : ∀ (x : List UInt8) (w : World), x.length ≤ 1000 → (Op.stringOp .add ⟨#[80, 75, 5, 6]⟩ ⟨x.toArray⟩).run Try.prog w = .ok (.string ⟨(mk ++ x).toArray⟩) w := by
      intro x w hx; rw [hmk]; exact run_add_lists [80, 75, 5, 6] x (by simp; omega) w
    have hml : mk.length = 4 := by rw [hmk]; rfl
    have HML := Lib.hid hml
    clear hmk hml
    go_enter Try.func18, Try.ntmps18
    go_wp2_with (refine (is_any _ _).mono ?_; rintro e w1 ⟨rfl, rfl⟩)
    refine (two_nat (0) _ (by omega) (by omega) _).mono ?_
    rintro e w1 ⟨rfl, hc1⟩
    have hcc := hcc.trans hc1 (fun _ _ h => h)
    clear hc1
    have ha := a0 (leB 0 2) w1 (by rw [leB_len]; omega)
    clear a0
    go_wp2_with fail
    clear ha
    refine (two_nat (0) _ (by omega) (by omega) _).mono ?_
    rintro e w1 ⟨rfl, hc1⟩
    have hcc := hcc.trans hc1 (fun _ _ h => h)
    clear hc1
    have ha := run_add_lists (P := Try.prog) (mk ++ leB 0 2) (leB 0 2) (by have := HML.out; simp only [List.length_append, leB_len]; omega) w1
    try simp only [List.append_assoc] at ha
    go_wp2_with fail
    clear ha
    refine (two_nat (c.toNat) _ (by omega) (by omega) _).mono ?_
    rintro e w1 ⟨rfl, hc1⟩
    have hcc := hcc.trans hc1 (fun _ _ h => h)
    clear hc1
    have ha := run_add_lists (P := Try.prog) (mk ++ (leB 0 2 ++ leB 0 2)) (leB c.toNat 2) (by have := HML.out; simp only [List.length_append, leB_len]; omega) w1
    try simp only [List.append_assoc] at ha
    go_wp2_with fail
    clear ha
    refine (two_nat (c.toNat) _ (by omega) (by omega) _).mono ?_
    rintro e w1 ⟨rfl, hc1⟩
    have hcc := hcc.trans hc1 (fun _ _ h => h)
    clear hc1
    have ha := run_add_lists (P := Try.prog) (mk ++ (leB 0 2 ++ (leB 0 2 ++ leB c.toNat 2))) (leB c.toNat 2) (by have := HML.out; simp only [List.length_append, leB_len]; omega) w1
    try simp only [List.append_assoc] at ha
    go_wp2_with fail
    clear ha
    refine (four_nat (s.toNat) _ (by omega) (by omega) _).mono ?_
    rintro e w1 ⟨rfl, hc1⟩
    have hcc := hcc.trans hc1 (fun _ _ h => h)
    clear hc1
    have ha := run_add_lists (P := Try.prog) (mk ++ (leB 0 2 ++ (leB 0 2 ++ (leB c.toNat 2 ++ leB c.toNat 2)))) (leB s.toNat 4) (by have := HML.out; simp only [List.length_append, leB_len]; omega) w1
    try simp only [List.append_assoc] at ha
    go_wp2_with fail
    clear ha
    refine (four_nat (a.toNat) _ (by omega) (by omega) _).mono ?_
    rintro e w1 ⟨rfl, hc1⟩
    have hcc := hcc.trans hc1 (fun _ _ h => h)
    clear hc1
    have ha := run_add_lists (P := Try.prog) (mk ++ (leB 0 2 ++ (leB 0 2 ++ (leB c.toNat 2 ++ (leB c.toNat 2 ++ leB s.toNat 4))))) (leB a.toNat 4) (by have := HML.out; simp only [List.length_append, leB_len]; omega) w1
    try simp only [List.append_assoc] at ha
    go_wp2_with fail
    clear ha
    refine (two_nat (0) _ (by omega) (by omega) _).mono ?_
    rintro e w1 ⟨rfl, hc1⟩
    have hcc := hcc.trans hc1 (fun _ _ h => h)
    clear hc1
    have ha := run_add_lists (P := Try.prog) (mk ++ (leB 0 2 ++ (leB 0 2 ++ (leB c.toNat 2 ++ (leB c.toNat 2 ++ (leB s.toNat 4 ++ leB a.toNat 4)))))) (leB 0 2) (by have := HML.out; simp only [List.length_append, leB_len]; omega) w1
    try simp only [List.append_assoc] at ha
    go_wp2_with fail
    go_ret2
    refine ⟨.inl ⟨HOK.out, ?_⟩, hcc⟩
    rw [HMK.out]
    simp [endL, lay]
  · have HOK := Lib.hid hok
    clear hok
    go_enter Try.func18, Try.ntmps18
    go_wp2_with (refine (is_any _ _).mono ?_; rintro e w1 ⟨rfl, rfl⟩)
    all_goals first
      | (go_ret2; exact ⟨.inr ⟨HOK.out, rfl⟩, hcc⟩)
      | (exfalso; have hok := HOK.out; unfold EndOk at hok; omega)
      | (exfalso; have hok := HOK.out; unfold EndOk at hok; simp at *; omega)
      | go_goals
end Go.Proofs.Ytgojdkjneggmjaa
