/-
  THE WALK of (matrix).times: at a block of 32 words it tells the xor of those words that the number's bits name.
-/
import Derived.Test.YtjihoghkmkdghaaCrcMore
import Derived.Deep.QuietTactic
import Derived.BigQuiet
import Derived.Outline
namespace Go.Proofs.Ytjihoghkmkdghaa
open Go.RowKit CrcM
/-- the words that a number's bits name, xor -/
def xorTo (f : Nat → W) (c : W) : Nat → W
  | 0 => 0#32
  | k + 1 => xorTo f c k ^^^ (f k &&& -((c >>> k) &&& 1#32))
/-- a block of 32 words -/
def Mat (w : World) (g : Nat) (f : Nat → W) : Prop := ∀ k, k < 32 → w.cell? ⟨g, k, none⟩ = some (.int .u32 (U (f k))) ∧ w.frozen? ⟨g, k, none⟩ = false
theorem U_shr (x : W) (k : Nat) : U x / 2 ^ k = U (x >>> k) := by
  unfold U; rw [BitVec.toNat_ushiftRight, Nat.shiftRight_eq_div_pow]; simp
theorem mat_walk (s m x : W) (k : Nat) : bits .xor .u32 (U s) (bits .and .u32 (U m) (-bits .and .u32 (U x / 2 ^ k) 1 % 4294967296)) = U (s ^^^ (m &&& -((x >>> k) &&& 1#32))) := by
  rw [one_U, U_shr, bits_and_U, U_neg, bits_and_U, bits_xor_U]
set_option maxHeartbeats 400000 in
theorem times_any (g : Nat) (f : Nat → W) (x : W) (w : World) (hm : Mat w g f) :
    Calls Try.prog 19 #[.pointer (some ⟨g, 0, none⟩), .int .u32 (U x)] w fun e w' => e = .returned (.int .u32 (U (xorTo f x 32))) ∧ ∃ n, w' = w.drewN n := by
  have x0 := U_lo x
  have x1 := U_hi x
  go_enter Try.func19, Try.ntmps19
  go_wp2
  go_loopw [5, 7] (fun s i wr => ∃ k : Nat, k ≤ 32 ∧ i = .int .i64 k ∧ s = .int .u32 (U (xorTo f x k)) ∧ ∃ n, wr = w.drewN n) (fun _ i _ => 32 - (intOf i).toNat)
  case atStart => exact ⟨0, by omega, rfl, rfl, 0, rfl⟩
  case round =>
    obtain ⟨k, hk, rfl, rfl, n, rfl⟩ := hrel
    have y0 := U_lo (xorTo f x k)
    have y1 := U_hi (xorTo f x k)
    by_cases hlt : k < 32
    · have hc : w.cell? ⟨g, k, none⟩ = some (.int .u32 (U (f k))) := (hm k hlt).1
      go_wp2
      go_quiet (fail)
      rw [mat_walk]
      go_wp2
      go_roundw
      case rel => exact ⟨k + 1, by omega, by go_num, rfl, _, rfl⟩
      case measure => simp [intOf]; omega
    · go_wp2
      go_ret
      obtain rfl : k = 32 := by omega
      exact ⟨rfl, n, rfl⟩
end Go.Proofs.Ytjihoghkmkdghaa
