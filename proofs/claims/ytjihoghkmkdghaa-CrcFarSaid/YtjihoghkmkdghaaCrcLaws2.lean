/-
  THE WALKS of the laws CrcJoins and CrcFar (valiselaw02): each returns true and writes nothing that was there.
-/
import Derived.Test.YtjihoghkmkdghaaCrcLaws
namespace Go.Proofs.Ytjihoghkmkdghaa
open Go.RowKit CrcM
theorem mask14 (n : Int) (h0 : 0 ≤ n) (h1 : n < 2147483648) : ∃ k : Nat, k ≤ 16383 ∧ bits .and .i64 n 16383 = (k : Int) := by
  refine ⟨n.toNat % 16384, by omega, ?_⟩
  have := bits_mask .i64 63 (by decide) wraps_i64 14 (by decide) n h0 (by omega)
  have e : ((2 : Int) ^ 14 - 1) = 16383 := by decide
  have e2 : ((2 : Int) ^ 14) = 16384 := by decide
  rw [e, e2] at this
  rw [this]; omega
theorem crcJoins_two (x y : W) : (U (x ^^^ y) == U (x ^^^ y)) = true := by simp
set_option maxRecDepth 100000 in
set_option maxHeartbeats 1000000 in
theorem crcJoins_walk (a0 : Int) (a1 : Int) (n : Int) (w : World) (w0 : (Lit.int .u32 a0).wf = true) (w1 : (Lit.int .u32 a1).wf = true) (_ : (Lit.int .i64 n).wf = true) :
    Calls Try.prog 4 #[.int .u32 a0, .int .u32 a1, .int .i64 n] w fun e w' => e = .returned (.bool true) ∧ Below w.heap.size w w' := by
  obtain ⟨a, rfl⟩ := u32_U a0 w0
  obtain ⟨b, rfl⟩ := u32_U a1 w1
  clear w0 w1
  by_cases h0 : n < 0
  · have hn : n < 0 ∨ 2147483647 < n := .inl h0
    have h1 : ¬ n > 16384 := by omega
    have hd : decide (16384 < n) = false := by simp; omega
    go_enter Try.func4, Try.ntmps4
    go_wp2_with fail
    refine (join_no a b n _ hn).mono ?_
    rintro e w1 ⟨rfl, hw1⟩
    have hc1 : Chg NoB w w1 := by rw [hw1]; exact Chg.refl _ _
    clear hw1
    go_wp2_with fail
    refine (rjoin_no a b n _ hn).mono ?_
    rintro e w2 ⟨rfl, rfl⟩
    go_wp2_with fail
    refine (crcLives_any _).mono ?_
    rintro e w3 ⟨rfl, hc3⟩
    go_wp2_with fail
    go_ret
    exact ⟨rfl, (hc1.trans hc3 (fun _ _ h => h)).no⟩
  · by_cases h1 : n ≤ 16384
    · obtain ⟨k, rfl⟩ : ∃ k : Nat, n = (k : Int) := ⟨n.toNat, by omega⟩
      have hd : decide (16384 < (k : Int)) = false := by simp; omega
      go_enter Try.func4, Try.ntmps4
      go_wp2_with fail
      refine (join_yes a b k _ (by omega)).mono ?_
      rintro e w1 ⟨rfl, hc1⟩
      go_wp2_with fail
      refine (rjoin_yes a b k _ (by omega)).mono ?_
      rintro e w2 ⟨rfl, rfl⟩
      go_wp2_with fail
      refine (crcLives_any _).mono ?_
      rintro e w3 ⟨rfl, hc3⟩
      go_wp2_with fail
      go_ret
      exact ⟨rfl, (hc1.trans hc3 (fun _ _ h => h)).no⟩
    · by_cases h2 : n < 2147483648
      · obtain ⟨k, hk, hmask⟩ := mask14 n (by omega) h2
        have HM := Lib.hid hmask
        clear hmask
        have hd : decide (16384 < n) = true := by simp; omega
        go_enter Try.func4, Try.ntmps4
        go_wp2_with fail
        rw [HM.out]
        go_wp2_with fail
        refine (join_yes a b k _ (by omega)).mono ?_
        rintro e w1 ⟨rfl, hc1⟩
        go_wp2_with fail
        refine (rjoin_yes a b k _ (by omega)).mono ?_
        rintro e w2 ⟨rfl, rfl⟩
        go_wp2_with fail
        refine (crcLives_any _).mono ?_
        rintro e w3 ⟨rfl, hc3⟩
        go_wp2_with fail
        go_ret
        exact ⟨rfl, (hc1.trans hc3 (fun _ _ h => h)).no⟩
      · have hn : n < 0 ∨ 2147483647 < n := .inr (by omega)
        have hd : decide (16384 < n) = true := by simp; omega
        go_enter Try.func4, Try.ntmps4
        go_wp2_with fail
        refine (join_no a b n _ hn).mono ?_
        rintro e w1 ⟨rfl, hw1⟩
        have hc1 : Chg NoB w w1 := by rw [hw1]; exact Chg.refl _ _
        clear hw1
        go_wp2_with fail
        refine (rjoin_no a b n _ hn).mono ?_
        rintro e w2 ⟨rfl, rfl⟩
        go_wp2_with fail
        refine (crcLives_any _).mono ?_
        rintro e w3 ⟨rfl, hc3⟩
        go_wp2_with fail
        go_ret
        exact ⟨rfl, (hc1.trans hc3 (fun _ _ h => h)).no⟩
set_option maxRecDepth 100000 in
set_option maxHeartbeats 1000000 in
theorem crcFar_walk (a0 : Int) (n : Int) (c : Int) (w : World) (w0 : (Lit.int .u32 a0).wf = true) (_ : (Lit.int .i64 n).wf = true) (_ : (Lit.int .i64 c).wf = true) :
    Calls Try.prog 6 #[.int .u32 a0, .int .i64 n, .int .i64 c] w fun e w' => e = .returned (.bool true) ∧ Below w.heap.size w w' := by
  obtain ⟨a, rfl⟩ := u32_U a0 w0
  clear w0
  by_cases h0 : n < 0
  · go_enter Try.func6, Try.ntmps6
    go_wp2_with (go_at_call 9; refine (crcLives_any _).mono ?_; rintro e w' ⟨rfl, hch⟩)
    go_ret
    exact ⟨rfl, hch.no⟩
  by_cases h1 : 2147483647 < n
  · go_enter Try.func6, Try.ntmps6
    go_wp2_with (go_at_call 9; refine (crcLives_any _).mono ?_; rintro e w' ⟨rfl, hch⟩)
    go_ret
    exact ⟨rfl, hch.no⟩
  by_cases h2 : c < 0
  · go_enter Try.func6, Try.ntmps6
    go_wp2_with (go_at_call 9; refine (crcLives_any _).mono ?_; rintro e w' ⟨rfl, hch⟩)
    go_ret
    exact ⟨rfl, hch.no⟩
  by_cases h3 : n < c
  · go_enter Try.func6, Try.ntmps6
    go_wp2_with (go_at_call 9; refine (crcLives_any _).mono ?_; rintro e w' ⟨rfl, hch⟩)
    go_ret
    exact ⟨rfl, hch.no⟩
  obtain ⟨k, rfl⟩ : ∃ k : Nat, n = (k : Int) := ⟨n.toNat, by omega⟩
  obtain ⟨j, rfl⟩ : ∃ j : Nat, c = (j : Int) := ⟨c.toNat, by omega⟩
  have e1 : (U (iter step8 k a) == U (iter step8 (k - j) (iter step8 j a))) = true := by
    rw [← iter_add, show j + (k - j) = k by omega]; simp
  have es : (k : Int) - (j : Int) = ((k - j : Nat) : Int) := by omega
  have ES := Lib.hid es
  clear es
  go_enter Try.func6, Try.ntmps6
  go_wp2_with fail
  refine (join_yes a 0#32 k _ (by omega)).mono ?_
  rintro e w1 ⟨rfl, hc1⟩
  go_wp2_with fail
  refine (join_yes a 0#32 j _ (by omega)).mono ?_
  rintro e w2 ⟨rfl, hc2⟩
  go_wp2_with fail
  rw [ES.out]
  refine (join_yes _ 0#32 (k - j) _ (by omega)).mono ?_
  rintro e w3 ⟨rfl, hc3⟩
  go_wp2_with fail
  refine (crcLives_any _).mono ?_
  rintro e w4 ⟨rfl, hc4⟩
  go_wp2_with fail
  go_ret
  exact ⟨rfl, (((hc1.trans hc2 (fun _ _ h => h)).trans hc3 (fun _ _ h => h)).trans hc4 (fun _ _ h => h)).no⟩
end Go.Proofs.Ytjihoghkmkdghaa
