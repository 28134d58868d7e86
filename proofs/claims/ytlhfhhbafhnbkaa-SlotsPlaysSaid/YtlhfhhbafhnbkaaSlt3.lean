/-
  SLOTS: half, Room, ready, content.
-/
import Derived.Test.YtlhfhhbafhnbkaaSlt2
import Derived.Test.YtlhfhhbafhnbkaaSecNil
namespace Go.Proofs.Ytlhfhhbafhnbkaa
open Go.RowKit FieldM CrcM
set_option linter.unusedSimpArgs false
set_option linter.unusedVariables false
def halfZ (n : Int) : Int := (n - 1) / 2
def roomZ (n : Int) : Int := if n < 3 ∨ 8192 < n then 0 else min (halfZ n * 512) 1048576
set_option maxRecDepth 100000 in
theorem half_any (n : Int) (h0 : 1 ≤ n) (h1 : n ≤ 9223372036854775807) (w : World) : Calls Try.prog 36 #[.int .i64 n] w fun e w' => e = .returned (.int .i64 (halfZ n)) ∧ w' = w := by
  have hq : Int.tdiv (n - 1) 2 = halfZ n := Int.tdiv_eq_ediv_of_nonneg (by omega)
  have hw : RowKit.wrap64 (n - 1) = n - 1 := IntWalk.wrap64_in _ (by omega)
  have hw2 : RowKit.wrap64 (halfZ n) = halfZ n := IntWalk.wrap64_in _ (by unfold halfZ; omega)
  go_enter Try.func36, Try.ntmps36
  go_wp2_with fail
  go_ret
  refine ⟨?_, rfl⟩
  show Ending.returned (.int .i64 (RowKit.wrap64 (halfZ n))) = _
  rw [hw2]
set_option maxRecDepth 100000 in
theorem room_any (n : Int) (h0 : -9223372036854775808 ≤ n) (h1 : n ≤ 9223372036854775807) (w : World) : Calls Try.prog 10 #[.int .i64 n] w fun e w' => e = .returned (.int .i64 (roomZ n)) ∧ w' = w := by
  go_enter Try.func10, Try.ntmps10
  by_cases hn : n < 3 ∨ 8192 < n
  · have hr : roomZ n = 0 := if_pos hn
    rw [hr]
    clear hr
    go_wp2_with fail
    all_goals first
      | (go_ret; exact ⟨rfl, rfl⟩)
      | (exfalso; omega)
  · obtain ⟨hz, hhz⟩ : ∃ hz, hz = halfZ n := ⟨_, rfl⟩
    have hb : 1 ≤ hz ∧ hz ≤ 4095 := by rw [hhz]; unfold halfZ; omega
    have hr : roomZ n = min (hz * 512) 1048576 := by rw [hhz]; exact if_neg hn
    rw [hr]
    have HHZ := Lib.hid hhz
    have g0 : 3 ≤ n := by omega
    have g1 : n ≤ 8192 := by omega
    clear hr hhz hn
    go_wp2_with fail
    refine (half_any n (by omega) (by omega) w).mono ?_
    rintro e w1 ⟨rfl, rfl⟩
    rw [← HHZ.out]
    go_wp2_with fail
    · go_ret
      exact ⟨by rw [show min (hz * 512) (1048576 : Int) = 1048576 from by omega]; rfl, rfl⟩
    · go_ret
      exact ⟨by rw [show min (hz * 512) (1048576 : Int) = hz * 512 from by omega]; rfl, rfl⟩
/-- what ready tells of a disk -/
def readyE (K : Dk) : Int := if K.n < 3 then 7 else 0
set_option maxRecDepth 100000 in
theorem sready_nil (w : World) : Calls Try.prog 47 #[.pointer none] w fun e w' => e = .returned (.int .i64 1) ∧ w' = w := by
  go_enter Try.func47, Try.ntmps47
  go_wp2_with fail
  refine (len_nil w).mono ?_
  rintro e w1 ⟨rfl, rfl⟩
  go_wp2_with fail
  go_ret
  exact ⟨rfl, rfl⟩
set_option maxRecDepth 100000 in
theorem sready_zero {g : Nat} {ms v mn : Value} {fuse : Int} {dark : Bool} (w : World) (hb : Blk w g 48 (dkC 0 ms v mn fuse dark)) : Calls Try.prog 47 #[.pointer (some ⟨g, 0, none⟩)] w fun e w' => e = .returned (.int .i64 1) ∧ w' = w := by
  have HB := Lib.hid hb
  clear hb
  go_enter Try.func47, Try.ntmps47
  go_wp2_with fail
  refine (len_ptr HB.out (by omega)).mono ?_
  rintro e w1 ⟨rfl, rfl⟩
  go_wp2_with fail
  go_ret
  exact ⟨rfl, rfl⟩
set_option maxRecDepth 100000 in
theorem sready_any {F : Nat → Prop} {g : Nat} {K : Dk} {w : World} (hD : Disk w F g K) : Calls Try.prog 47 #[.pointer (some ⟨g, 0, none⟩)] w fun e w' => e = .returned (.int .i64 (readyE K)) ∧ w' = w := by
  have hn : 1 ≤ K.n ∧ K.n ≤ 8192 := by obtain ⟨_, _, _, hd, _⟩ := hD; exact ⟨hd.n0, hd.n1⟩
  have HD := Lib.hid hD
  obtain ⟨n, hnn⟩ : ∃ n, n = K.n := ⟨_, rfl⟩
  have HNN := Lib.hid hnn
  obtain ⟨er, her⟩ : ∃ er, er = readyE K := ⟨_, rfl⟩
  rw [← hnn] at hn
  rw [← her]
  unfold readyE at her
  rw [← hnn] at her
  have HER := Lib.hid her
  obtain ⟨n0, n1⟩ := hn
  clear her
  clear hD hnn
  go_enter Try.func47, Try.ntmps47
  go_wp2_with fail
  refine HD.out.len_.mono ?_
  rintro e w1 ⟨rfl, rfl⟩
  rw [← HNN.out]
  by_cases h : n < 3
  · go_wp2_with fail
    go_ret
    exact ⟨by rw [HER.out, if_pos h]; rfl, rfl⟩
  · go_wp2_with fail
    go_ret
    exact ⟨by rw [HER.out, if_neg (by omega)]; rfl, rfl⟩
end Go.Proofs.Ytlhfhhbafhnbkaa
