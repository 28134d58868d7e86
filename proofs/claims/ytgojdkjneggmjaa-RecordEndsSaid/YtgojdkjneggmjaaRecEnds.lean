/-
  THE LAW RecordEnds, walked.
-/
import Derived.Test.YtgojdkjneggmjaaRec22
namespace Go.Proofs.Ytgojdkjneggmjaa
open Go.RowKit FieldM
set_option linter.unusedSimpArgs false
set_option maxRecDepth 100000 in
set_option maxHeartbeats 4000000 in
theorem recordEnds_walk (c s a : Int) (W : World) (_ : (Lit.int .i64 c).wf = true) (_ : (Lit.int .i64 s).wf = true) (_ : (Lit.int .i64 a).wf = true) :
    Calls Try.prog 4 #[.int .i64 c, .int .i64 s, .int .i64 a] W fun e W' => e = .returned (.bool true) ∧ Below W.heap.size W W' := by
  go_enter Try.func4, Try.ntmps4
  go_wp2_with fail
  refine (end_any c s a W).mono ?_
  rintro e w1 ⟨hcase, hc1⟩
  rcases hcase with ⟨hok, v1, rfl, ho1⟩ | ⟨hok, rfl⟩
  · obtain ⟨A1, n1, c1, rfl, hn1, hr1, hnc1, _⟩ := ho1.val
    have HOK := Lib.hid hok
    clear hok
    obtain ⟨L, hL⟩ : ∃ L, L = endL c s a := ⟨_, rfl⟩
    rw [← hL] at hr1 hn1
    have HL := Lib.hid hL
    have HN := Lib.hid hn1
    clear hL hn1 ho1
    go_wp2_with fail
    refine (rend_any c s a w1).mono ?_
    rintro e w2 ⟨hcase, hc2⟩
    rcases hcase with ⟨_, rfl⟩ | ⟨h, _⟩
    rotate_left
    · exact absurd HOK.out h
    rw [← HL.out]
    have hs := (hr1.no hc2).toStr HN.out c1 Try.underlying24 Try.underlying5 Try.underlying9
    have HC := Lib.hid (hc1.trans hc2 (fun _ _ h => h))
    clear hr1 hc1 hc2
    go_wp2_with ((refine (lives_any w2).mono ?_); rintro e w3 ⟨rfl, hc3⟩)
    go_ret
    exact ⟨rfl, (HC.out.trans hc3 (fun _ _ h => h)).no⟩
  · have HOK := Lib.hid hok
    clear hok
    have hs : ∀ w, (convert 24 9 (.slice none 0 0)).run Try.prog w = .ok (.string ⟨#[]⟩) w := fun w => by
      have := (RB.none_ (w := w) (B := 0) (A := none)).toStr (P := Try.prog) (n := 0) rfl 0 Try.underlying24 Try.underlying5 Try.underlying9
      exact this
    go_wp2_with fail
    refine (rend_any c s a w1).mono ?_
    rintro e w2 ⟨hcase, hc2⟩
    rcases hcase with ⟨h, _⟩ | ⟨_, rfl⟩
    · exact absurd h HOK.out
    have HC := Lib.hid (hc1.trans hc2 (fun _ _ h => h))
    clear hc1 hc2
    go_wp2_with ((refine (lives_any w2).mono ?_); rintro e w3 ⟨rfl, hc3⟩)
    go_ret
    exact ⟨rfl, (HC.out.trans hc3 (fun _ _ h => h)).no⟩
end Go.Proofs.Ytgojdkjneggmjaa
