/-
  THE WALKS of crc.Join and of the reference's Join: both tell the second sum xor what becomes of the first behind n steps, or refuse.
-/
import Derived.Test.YtjihoghkmkdghaaCrcJoin
namespace Go.Proofs.Ytjihoghkmkdghaa
open Go.RowKit CrcM
theorem U_pow (k : Nat) : (2 : Int) ^ k % 4294967296 = U (1#32 <<< k) := by
  unfold U; rw [BitVec.toNat_shiftLeft, Nat.shiftLeft_eq]; simp
theorem wraps_i64 (n : Int) (h₀ : 0 ≤ n) (h₁ : n < 2 ^ 63) : IntKind.i64.wrap n = n := IntWalk.i64_in _ (by omega)
theorem and_one_nat (m : Nat) (h : m ≤ 9223372036854775807) : bits .and .i64 (m : Int) 1 = ((m % 2 : Nat) : Int) := by
  have := bits_mask .i64 63 (by decide) wraps_i64 1 (by decide) (m : Int) (by omega) (by omega)
  simpa using this
theorem odd_nat (m : Nat) (h : m % 2 = 1) (hm : m ≤ 9223372036854775807) : (bits .and .i64 (m : Int) 1 == 1) = true := by
  rw [and_one_nat m hm, h]; rfl
theorem even_nat (m : Nat) (h : m % 2 = 0) (hm : m ≤ 9223372036854775807) : (bits .and .i64 (m : Int) 1 == 1) = false := by
  rw [and_one_nat m hm, h]; rfl
set_option maxHeartbeats 400000 in
theorem join_no (a b : W) (n : Int) (w : World) (hn : n < 0 ∨ 2147483647 < n) :
    Calls Try.prog 14 #[.int .u32 (U a), .int .u32 (U b), .int .i64 n] w fun e w' => e = .returned (.tuple #[.int .u32 0, .int .i64 2]) ∧ w' = w := by
  rcases hn with hn | hn
  · go_enter Try.func14, Try.ntmps14
    go_wp2_with fail
    go_ret2
    exact ⟨rfl, rfl⟩
  · have h0 : ¬ n < 0 := by omega
    go_enter Try.func14, Try.ntmps14
    go_wp2_with fail
    go_ret2
    exact ⟨rfl, rfl⟩
set_option maxHeartbeats 400000 in
theorem join_yes (a b : W) (n : Nat) (w : World) (hn : n ≤ 2147483647) :
    Calls Try.prog 14 #[.int .u32 (U a), .int .u32 (U b), .int .i64 (n : Int)] w fun e w' => e = .returned (.tuple #[.int .u32 (U (iter step8 n a ^^^ b)), .int .i64 0]) ∧ Chg NoB w w' := by
  have h0 : ¬ (n : Int) < 0 := by omega
  have h1 : ¬ (n : Int) > 2147483647 := by omega
  go_enter Try.func14, Try.ntmps14
  go_wp2_with fail
  go_loopw [9, 17] (fun _ i wr => ∃ k : Nat, k ≤ 32 ∧ i = .int .i64 k ∧ Blk wr w.heap.size 40 (arr (fillTo k)) ∧ Chg NoB w wr) (fun _ i _ => 32 - (intOf i).toNat)
  case atStart =>
    refine ⟨0, by omega, rfl, ?_, (Chg.refl _ _).alloc _⟩
    rw [show fillTo 0 = fun _ => 0#32 from by funext j; simp [fillTo], arr_zero]
    exact Blk.new _ _ _
  case round =>
    obtain ⟨k, hk, rfl, hb, hch⟩ := hrel
    by_cases hlt : k < 32
    · have c2 : wr.cell? ⟨w.heap.size, k, none⟩ = some (.int .u32 (U (fillTo k k))) := (hb.mat k hlt).1
      have c3 : wr.frozen? ⟨w.heap.size, k, none⟩ = false := (hb.mat k hlt).2
      go_wp2_with fail
      rw [U_pow]
      refine (step_any _ _).mono ?_
      rintro e w' ⟨rfl, rfl⟩
      go_wp2_with fail
      go_roundw
      case rel =>
        refine ⟨k + 1, by omega, by go_num, ?_, hch.setCell (.inr (Nat.le_refl _)) _⟩
        rw [← fillTo_succ, ← arr_set]
        exact hb.set_ k _
      case measure => simp [intOf]; omega
    · have k32 : k = 32 := by omega
      rw [k32, fillTo_all] at hb
      clear k32
      go_wp2_with fail
      go_loopw [0, 2] (fun s i wr => ∃ (x : W) (m p : Nat), m ≤ n ∧ i = .int .i64 m ∧ s = .int .u32 (U x) ∧ iter step8 (p * m) x = iter step8 n a ∧ Blk wr w.heap.size 40 (arr (pw p)) ∧ Chg NoB w wr) (fun _ i _ => (intOf i).toNat)
      case atStart => exact ⟨a, n, 1, Nat.le_refl _, rfl, rfl, by rw [Nat.one_mul], hb, hch⟩
      case round =>
        clear hb hch
        obtain ⟨x, m, p, hm, rfl, rfl, hx, hb, hch⟩ := hrel
        have HX := Lib.hid hx
        clear hx
        by_cases hpos : 0 < m
        · rcases Nat.mod_two_eq_zero_or_one m with h2 | h2
          · have ho := even_nat m h2 (by omega)
            have H2 := Lib.hid h2
            clear h2
            go_wp2_with fail
            refine (twice_any _ _ _ hb).mono ?_
            rintro e w' ⟨rfl, hb', hc'⟩
            rw [pw_twice] at hb'
            go_wp2_with fail
            go_roundw
            case rel =>
              refine ⟨x, m / 2, 2 * p, by omega, by go_num, rfl, ?_, hb', hch.trans hc' ?_⟩
              · have h2 := H2.out
                rw [← HX.out]; congr 1
                have : m = 2 * (m / 2) := by omega
                rw [Nat.mul_comm 2 p, Nat.mul_assoc, ← this]
              · intro i hi (h : i = _); omega
            case measure => simp [intOf]; omega
          · have ho := odd_nat m h2 (by omega)
            have H2 := Lib.hid h2
            clear h2
            go_wp2_with fail
            refine (times_any _ _ _ _ hb.mat).mono ?_
            rintro e w' ⟨rfl, nd, rfl⟩
            have hbd := hb.drewN nd
            rw [pw_times]
            go_wp2_with fail
            refine (twice_any _ _ _ hbd).mono ?_
            rintro e w' ⟨rfl, hb', hc'⟩
            rw [pw_twice] at hb'
            go_wp2_with fail
            go_roundw
            case rel =>
              refine ⟨_, m / 2, 2 * p, by omega, by go_num, rfl, ?_, hb', (hch.drewN nd).trans hc' ?_⟩
              · have h2 := H2.out
                rw [← HX.out, ← iter_add]; congr 1
                have : m = 2 * (m / 2) + 1 := by omega
                have e : p * m = p * (2 * (m / 2) + 1) := congrArg _ this
                rw [e, Nat.mul_add, Nat.mul_comm 2 p, Nat.mul_assoc]; omega
              · intro i hi (h : i = _); omega
            case measure => simp [intOf]; omega
        · go_wp2_with fail
          go_ret2
          obtain rfl : m = 0 := by omega
          refine ⟨?_, hch⟩
          have hx := HX.out
          rw [← hx, Nat.mul_zero]
          show Ending.returned (Value.tuple #[Value.int .u32 (bits .xor .u32 (U x) (U b)), _]) = _
          rw [bits_xor_U]; rfl
theorem rjoin_no (a b : W) (n : Int) (w : World) (hn : n < 0 ∨ 2147483647 < n) :
    Calls Try.prog 15 #[.int .u32 (U a), .int .u32 (U b), .int .i64 n] w fun e w' => e = .returned (.tuple #[.int .u32 0, .int .i64 2]) ∧ w' = w := by
  rcases hn with hn | hn
  · go_enter Try.func15, Try.ntmps15
    go_wp2_with fail
    go_ret2
    exact ⟨rfl, rfl⟩
  · have h0 : ¬ n < 0 := by omega
    go_enter Try.func15, Try.ntmps15
    go_wp2_with fail
    go_ret2
    exact ⟨rfl, rfl⟩
set_option maxHeartbeats 400000 in
theorem rjoin_yes (a b : W) (n : Nat) (w : World) (hn : n ≤ 2147483647) :
    Calls Try.prog 15 #[.int .u32 (U a), .int .u32 (U b), .int .i64 (n : Int)] w fun e w' => e = .returned (.tuple #[.int .u32 (U (iter step8 n a ^^^ b)), .int .i64 0]) ∧ w' = w := by
  have h0 : ¬ (n : Int) < 0 := by omega
  have h1 : ¬ (n : Int) > 2147483647 := by omega
  go_enter Try.func15, Try.ntmps15
  go_wp2_with fail
  go_loop [0, 8] (fun s i => ∃ k : Nat, k ≤ n ∧ i = .int .i64 k ∧ s = .int .u32 (U (iter step8 k a))) (fun _ i => n - (intOf i).toNat)
  case atStart => exact ⟨0, by omega, rfl, rfl⟩
  case round =>
    obtain ⟨k, hk, rfl, rfl⟩ := hrel
    by_cases hlt : k < n
    · go_wp2_with fail
      refine (rstep_any _ _).mono ?_
      rintro e w' ⟨rfl, rfl⟩
      go_wp2_with fail
      go_round
      case rel => exact ⟨k + 1, by omega, by go_num, by rw [iter_succ]⟩
      case measure => simp [intOf]; omega
    · obtain rfl : k = n := by omega
      go_wp2_with fail
      go_ret2
      refine ⟨?_, rfl⟩
      show Ending.returned (Value.tuple #[Value.int .u32 (bits .xor .u32 (U (iter step8 k a)) (U b)), _]) = _
      rw [bits_xor_U]; rfl
end Go.Proofs.Ytjihoghkmkdghaa
