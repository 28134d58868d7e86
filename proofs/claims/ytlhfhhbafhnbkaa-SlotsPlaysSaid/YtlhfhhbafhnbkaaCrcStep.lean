/-
  THE WALKS of crc.step and of the reference's step: both tell eight halvings of the word.
-/
import Derived.Test.YtlhfhhbafhnbkaaProg
import Derived.Test.YtlhfhhbafhnbkaaCrcMath
import Derived.WalkKit
import Derived.Lib.Hide
namespace Go.Proofs.Ytlhfhhbafhnbkaa
open Go.RowKit CrcM
set_option maxHeartbeats 400000 in
theorem step_any (x : W) (w : World) :
    Calls Try.prog 70 #[.int .u32 (U x)] w fun e w' => e = .returned (.int .u32 (U (step8 x))) ∧ w' = w := by
  go_enter Try.func70, Try.ntmps70
  go_wp2
  go_loop [0, 3] (fun s i => ∃ k : Nat, k ≤ 8 ∧ i = .int .i64 k ∧ s = .int .u32 (U (iter half k x))) (fun _ i => 8 - (intOf i).toNat)
  case atStart => exact ⟨0, by omega, rfl, rfl⟩
  case round =>
    obtain ⟨k, hk, rfl, rfl⟩ := hrel
    have h0 := U_lo (iter half k x)
    have h1 := U_hi (iter half k x)
    by_cases hlt : k < 8
    · go_wp2
      go_round
      case rel => exact ⟨k + 1, by omega, by go_num, by rw [iter_succ, half_walk]⟩
      case measure => simp [intOf]; omega
    · go_wp2
      go_ret
      have : k = 8 := by omega
      subst this
      exact ⟨rfl, rfl⟩
set_option maxHeartbeats 400000 in
theorem rstep_any (x : W) (w : World) :
    Calls Try.prog 67 #[.int .u32 (U x)] w fun e w' => e = .returned (.int .u32 (U (step8 x))) ∧ w' = w := by
  go_enter Try.func67, Try.ntmps67
  go_wp2
  go_loop [0, 3] (fun s i => ∃ k : Nat, k ≤ 8 ∧ i = .int .i64 k ∧ s = .int .u32 (U (iter half k x))) (fun _ i => 8 - (intOf i).toNat)
  case atStart => exact ⟨0, by omega, rfl, rfl⟩
  case round =>
    obtain ⟨k, hk, rfl, rfl⟩ := hrel
    have h0 := U_lo (iter half k x)
    have h1 := U_hi (iter half k x)
    have ho := odd_walk (iter half k x)
    by_cases hlt : k < 8
    · cases hb : (iter half k x).getLsbD 0
      · have he := half_even _ hb
        have HE := Lib.hid he
        rw [hb] at ho
        clear he hb
        go_wp2
        go_round
        case rel => exact ⟨k + 1, by omega, by go_num, by rw [iter_succ, HE.out]⟩
        case measure => simp [intOf]; omega
      · have he := half_odd _ hb
        have HE := Lib.hid he
        rw [hb] at ho
        clear he hb
        go_wp2
        go_round
        case rel => exact ⟨k + 1, by omega, by go_num, by rw [iter_succ, HE.out]⟩
        case measure => simp [intOf]; omega
    · go_wp2
      go_ret
      have : k = 8 := by omega
      subst this
      exact ⟨rfl, rfl⟩
end Go.Proofs.Ytlhfhhbafhnbkaa
