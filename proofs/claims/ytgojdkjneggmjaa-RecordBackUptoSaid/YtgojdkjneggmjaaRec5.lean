/-
  THE WALK of the program's Check.
-/
import Derived.Test.YtgojdkjneggmjaaRec4
import Derived.LoopN
namespace Go.Proofs.Ytgojdkjneggmjaa
open Go.RowKit FieldM
set_option linter.unusedSimpArgs false
set_option maxRecDepth 100000 in
set_option maxHeartbeats 4000000 in
theorem check_any (r : Rec) (w : World) :
    Calls Try.prog 14 #[.agg r.cells] w fun e w' => ((r.Ok ∧ e = .returned (.int .i64 0)) ∨ (¬ r.Ok ∧ e = .returned (.int .i64 2))) ∧ Chg NoB w w' := by
  obtain ⟨s, hs⟩ : ∃ s : ByteArray, s = ⟨r.name.toArray⟩ := ⟨_, rfl⟩
  obtain ⟨N, hN⟩ : ∃ N : Int, (s.size : Int) = N := ⟨_, rfl⟩
  have hNN : (r.name.length : Int) = N := by rw [← hN, hs]; simp [ByteArray.size]
  rw [r.ok_iff, hNN]
  obtain ⟨nm, me, su, pa, si, at_⟩ := r
  simp only at hs hNN ⊢
  clear hNN
  simp only [Rec.cells]
  rw [← hs]
  clear hs nm
  have hc : ∀ o, Chg NoB w (w.alloc o) := fun o => (Chg.refl _ _).alloc o
  go_enter Try.func14, Try.ntmps14
  have j0 : ∀ w : World, (Instr.index 57 (.agg #[.int .i64 su, .int .i64 pa, .int .i64 si, .int .i64 at_]) (.int .i64 0)).run Try.prog w = .ok (.int .i64 su) w := fun _ => by kernel_rfl
  have j1 : ∀ w : World, (Instr.index 57 (.agg #[.int .i64 su, .int .i64 pa, .int .i64 si, .int .i64 at_]) (.int .i64 1)).run Try.prog w = .ok (.int .i64 pa) w := fun _ => by kernel_rfl
  have j2 : ∀ w : World, (Instr.index 57 (.agg #[.int .i64 su, .int .i64 pa, .int .i64 si, .int .i64 at_]) (.int .i64 2)).run Try.prog w = .ok (.int .i64 si) w := fun _ => by kernel_rfl
  have j3 : ∀ w : World, (Instr.index 57 (.agg #[.int .i64 su, .int .i64 pa, .int .i64 si, .int .i64 at_]) (.int .i64 3)).run Try.prog w = .ok (.int .i64 at_) w := fun _ => by kernel_rfl
  go_wp2_with fail
  all_goals (refine wp_loop_rounds 5 ?_; rw [rounds_succ])
  all_goals go_wp2_with (first | (rw [rounds_succ]) | (refine (number_any _ _).mono ?_; rintro e w1 ⟨rfl, rfl⟩))
  all_goals go_ret
  all_goals first
    | (refine ⟨.inr ⟨?_, rfl⟩, hc _⟩; intro hx; first | omega | (simp at *; omega))
    | (refine ⟨.inl ⟨?_, rfl⟩, hc _⟩; first | omega | (simp at *; omega))
    | go_goals
end Go.Proofs.Ytgojdkjneggmjaa
