/-
  THE SMALL METHODS OF A DISK: made, Len, Loose, Dark, Fuse, spend.
-/
import Derived.Test.YtlhfhhbafhnbkaaSec3
namespace Go.Proofs.Ytlhfhhbafhnbkaa
open Go.RowKit Go.Maps
set_option linter.unusedSimpArgs false
/-- the six cells of a disk -/
def dkC (n : Int) (ms v mn : Value) (fuse : Int) (dark : Bool) : Array Value := #[.int .i64 n, ms, v, mn, .int .i64 fuse, .bool dark]
section
variable {w : World} {g : Nat} {n fuse : Int} {ms v mn : Value} {dark : Bool}
set_option maxRecDepth 100000 in
set_option maxHeartbeats 1000000 in
theorem made_nil (w : World) : Calls Try.prog 40 #[.pointer none] w fun e w' => e = .returned (.bool false) ∧ w' = w := by
  go_enter Try.func40, Try.ntmps40
  go_wp2_with fail
  go_ret
  exact ⟨rfl, rfl⟩
set_option maxRecDepth 100000 in
set_option maxHeartbeats 1000000 in
theorem made_ptr (hb : Blk w g 48 (dkC n ms v mn fuse dark)) (b : Bool) (hn : decide (0 < n) = b) : Calls Try.prog 40 #[.pointer (some ⟨g, 0, none⟩)] w fun e w' => e = .returned (.bool b) ∧ w' = w := by
  have HN := Lib.hid hn
  have c0 := hb.cell 0
  simp only [dkC] at c0
  clear hb hn
  go_enter Try.func40, Try.ntmps40
  go_wp2_with fail
  go_ret
  rw [← HN.out]
  exact ⟨rfl, rfl⟩
set_option maxRecDepth 100000 in
set_option maxHeartbeats 1000000 in
theorem len_nil (w : World) : Calls Try.prog 51 #[.pointer none] w fun e w' => e = .returned (.int .i64 0) ∧ w' = w := by
  go_enter Try.func51, Try.ntmps51
  go_wp2_with fail
  refine (made_nil w).mono ?_
  rintro e w1 ⟨rfl, rfl⟩
  go_wp2_with fail
  go_ret
  exact ⟨rfl, rfl⟩
set_option maxRecDepth 100000 in
set_option maxHeartbeats 1000000 in
theorem len_ptr (hb : Blk w g 48 (dkC n ms v mn fuse dark)) (hn : 0 ≤ n) : Calls Try.prog 51 #[.pointer (some ⟨g, 0, none⟩)] w fun e w' => e = .returned (.int .i64 n) ∧ w' = w := by
  have HB := Lib.hid hb
  have HN := Lib.hid hn
  have c0 := hb.cell 0
  simp only [dkC] at c0
  clear hb hn
  go_enter Try.func51, Try.ntmps51
  go_wp2_with fail
  by_cases h : 0 < n
  · refine (made_ptr HB.out true (by simpa using h)).mono ?_
    rintro e w1 ⟨rfl, rfl⟩
    clear h
    go_wp2_with fail
    go_ret
    exact ⟨rfl, rfl⟩
  · refine (made_ptr HB.out false (by simpa using h)).mono ?_
    rintro e w1 ⟨rfl, rfl⟩
    have e0 : n = 0 := by have := HN.out; omega
    clear h
    go_wp2_with fail
    go_ret
    rw [e0]
    exact ⟨rfl, rfl⟩
set_option maxRecDepth 100000 in
set_option maxHeartbeats 1000000 in
theorem dark_nil (w : World) : Calls Try.prog 27 #[.pointer none] w fun e w' => e = .returned (.bool false) ∧ w' = w := by
  go_enter Try.func27, Try.ntmps27
  go_wp2_with fail
  refine (made_nil w).mono ?_
  rintro e w1 ⟨rfl, rfl⟩
  go_wp2_with fail
  go_ret
  exact ⟨rfl, rfl⟩
set_option maxRecDepth 100000 in
set_option maxHeartbeats 1000000 in
theorem dark_ptr (hb : Blk w g 48 (dkC n ms v mn fuse dark)) (b : Bool) (hn : decide (0 < n) = b) : Calls Try.prog 27 #[.pointer (some ⟨g, 0, none⟩)] w fun e w' => e = .returned (.bool (b && dark)) ∧ w' = w := by
  have HB := Lib.hid hb
  have c5 := hb.cell 5
  simp only [dkC] at c5
  clear hb
  go_enter Try.func27, Try.ntmps27
  go_wp2_with fail
  refine (made_ptr HB.out b hn).mono ?_
  rintro e w1 ⟨rfl, rfl⟩
  clear hn
  cases b
  all_goals
    go_wp2_with fail
    go_ret
    exact ⟨rfl, rfl⟩
set_option maxRecDepth 100000 in
set_option maxHeartbeats 1000000 in
theorem loose_nil (w : World) : Calls Try.prog 25 #[.pointer none] w fun e w' => e = .returned (.int .i64 0) ∧ w' = w := by
  go_enter Try.func25, Try.ntmps25
  go_wp2_with fail
  refine (made_nil w).mono ?_
  rintro e w1 ⟨rfl, rfl⟩
  go_wp2_with fail
  go_ret
  exact ⟨rfl, rfl⟩
set_option maxRecDepth 100000 in
set_option maxHeartbeats 1000000 in
theorem loose_ptr {A : Option Addr} {k c : Nat} (hb : Blk w g 48 (dkC n ms (.slice A k c) mn fuse dark)) (hn : 0 < n) : Calls Try.prog 25 #[.pointer (some ⟨g, 0, none⟩)] w fun e w' => e = .returned (.int .i64 (k : Int)) ∧ w' = w := by
  have HB := Lib.hid hb
  have c2 := hb.cell 2
  simp only [dkC] at c2
  have HN := Lib.hid hn
  clear hb hn
  go_enter Try.func25, Try.ntmps25
  go_wp2_with fail
  refine (made_ptr HB.out true (by simpa using HN.out)).mono ?_
  rintro e w1 ⟨rfl, rfl⟩
  go_wp2_with fail
  go_ret
  exact ⟨rfl, rfl⟩
set_option maxRecDepth 100000 in
set_option maxHeartbeats 1000000 in
theorem loose_zero (hb : Blk w g 48 (dkC 0 ms v mn fuse dark)) : Calls Try.prog 25 #[.pointer (some ⟨g, 0, none⟩)] w fun e w' => e = .returned (.int .i64 0) ∧ w' = w := by
  have HB := Lib.hid hb
  clear hb
  go_enter Try.func25, Try.ntmps25
  go_wp2_with fail
  refine (made_ptr HB.out false rfl).mono ?_
  rintro e w1 ⟨rfl, rfl⟩
  go_wp2_with fail
  go_ret
  exact ⟨rfl, rfl⟩
set_option maxRecDepth 100000 in
set_option maxHeartbeats 1000000 in
theorem fuse_nil (w : World) (x : Int) : Calls Try.prog 26 #[.pointer none, .int .i64 x] w fun e w' => (∃ v, e = .returned v) ∧ w' = w := by
  go_enter Try.func26, Try.ntmps26
  go_wp2_with fail
  refine (made_nil w).mono ?_
  rintro e w1 ⟨rfl, rfl⟩
  go_wp2_with fail
  go_end0
  exact ⟨⟨_, rfl⟩, rfl⟩
set_option maxRecDepth 100000 in
set_option maxHeartbeats 1000000 in
theorem fuse_zero (hb : Blk w g 48 (dkC 0 ms v mn fuse dark)) (x : Int) : Calls Try.prog 26 #[.pointer (some ⟨g, 0, none⟩), .int .i64 x] w fun e w' => (∃ v, e = .returned v) ∧ w' = w := by
  have HB := Lib.hid hb
  clear hb
  go_enter Try.func26, Try.ntmps26
  go_wp2_with fail
  refine (made_ptr HB.out false rfl).mono ?_
  rintro e w1 ⟨rfl, rfl⟩
  go_wp2_with fail
  go_end0
  exact ⟨⟨_, rfl⟩, rfl⟩
set_option maxRecDepth 100000 in
set_option maxHeartbeats 1000000 in
theorem fuse_ptr (hb : Blk w g 48 (dkC n ms v mn fuse dark)) (hn : 0 < n) (x : Int) : Calls Try.prog 26 #[.pointer (some ⟨g, 0, none⟩), .int .i64 x] w fun e w' => (∃ v, e = .returned v) ∧ Blk w' g 48 (dkC n ms v mn (max 0 x) dark) ∧ Chg (OneB g) w w' := by
  have HB := Lib.hid hb
  have HN := Lib.hid hn
  have c4 := hb.cell 4
  have fr4 := hb.frozen 4
  simp only [dkC] at c4
  clear hb hn
  go_enter Try.func26, Try.ntmps26
  go_wp2_with fail
  refine (made_ptr HB.out true (by simpa using HN.out)).mono ?_
  rintro e w1 ⟨rfl, rfl⟩
  go_wp2_with fail
  all_goals
    go_end0
    refine ⟨⟨_, rfl⟩, ?_, Chg.setCell (S := OneB g) (p := ⟨g, 4, none⟩) (Chg.refl _ _) (.inl rfl) _⟩
    first | exact (HB.out.set_ 4 _) | (rw [show max 0 x = 0 by omega]; exact HB.out.set_ 4 _) | (rw [show max 0 x = x by omega]; exact HB.out.set_ 4 _)
set_option maxRecDepth 100000 in
set_option maxHeartbeats 1000000 in
theorem spend_any (hb : Blk w g 48 (dkC n ms v mn fuse dark)) (hf : -1 ≤ fuse ∧ fuse ≤ 9223372036854775807) : Calls Try.prog 42 #[.pointer (some ⟨g, 0, none⟩)] w fun e w' => e = .returned (.bool (!(dark || fuse == 0))) ∧ Blk w' g 48 (dkC n ms v mn (if 0 < fuse then fuse - 1 else fuse) (dark || fuse == 0)) ∧ Chg (OneB g) w w' := by
  have HB := Lib.hid hb
  have HF := Lib.hid hf
  have c4 := hb.cell 4
  have c5 := hb.cell 5
  have fr4 := hb.frozen 4
  have fr5 := hb.frozen 5
  simp only [dkC] at c4 c5
  clear hb hf
  go_enter Try.func42, Try.ntmps42
  go_wp2_with fail
  all_goals
    go_ret
    first
      | exact ⟨rfl, HB.out.set_ 5 _, Chg.setCell (S := OneB g) (p := ⟨g, 5, none⟩) (Chg.refl _ _) (.inl rfl) _⟩
      | (rw [IntWalk.wrap64_in _ (by have h1 := HF.out; omega)]
         exact ⟨rfl, (HB.out.set_ 5 _).set_ 4 _, Chg.setCell (S := OneB g) (p := ⟨g, 4, none⟩) (Chg.setCell (S := OneB g) (p := ⟨g, 5, none⟩) (Chg.refl _ _) (.inl rfl) _) (.inl rfl) _⟩)
end
end Go.Proofs.Ytlhfhhbafhnbkaa
