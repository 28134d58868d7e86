/-
  THE METHODS ON NO DISK, AND ON ONE THAT NOTHING MADE.
-/
import Derived.Test.YtlhfhhbafhnbkaaSec7
namespace Go.Proofs.Ytlhfhhbafhnbkaa
open Go.RowKit Go.Maps
set_option linter.unusedSimpArgs false
set_option maxRecDepth 100000 in
set_option maxHeartbeats 1000000 in
theorem write_nil (w : World) (i : Int) (A : Option Addr) (n c : Nat) : Calls Try.prog 17 #[.pointer none, .int .i64 i, .slice A n c] w fun e w' => e = .returned (.int .i64 1) ∧ Chg NoB w w' := by
  have hcx := Chg.refl NoB w
  go_enter Try.func17, Try.ntmps17
  go_wp2_with fail
  refine (made_nil _).mono ?_
  rintro e w1 ⟨rfl, rfl⟩
  go_wp2_with fail
  go_ret
  exact ⟨rfl, hcx⟩
set_option maxRecDepth 100000 in
set_option maxHeartbeats 1000000 in
theorem write_zero (w : World) {g : Nat} {fuse : Int} {ms v mn : Value} {dark : Bool} (hb : Blk w g 48 (dkC 0 ms v mn fuse dark)) (i : Int) (A : Option Addr) (n c : Nat) : Calls Try.prog 17 #[.pointer (some ⟨g, 0, none⟩), .int .i64 i, .slice A n c] w fun e w' => e = .returned (.int .i64 1) ∧ Chg NoB w w' := by
  have hcx := Chg.refl NoB w
  have HB := Lib.hid hb
  clear hb
  go_enter Try.func17, Try.ntmps17
  go_wp2_with fail
  refine (made_ptr HB.out false rfl).mono ?_
  rintro e w1 ⟨rfl, rfl⟩
  go_wp2_with fail
  go_ret
  exact ⟨rfl, hcx⟩
set_option maxRecDepth 100000 in
set_option maxHeartbeats 1000000 in
theorem sync_nil (w : World) : Calls Try.prog 50 #[.pointer none] w fun e w' => e = .returned (.int .i64 1) ∧ Chg NoB w w' := by
  have hcx := Chg.refl NoB w
  obtain ⟨w0, hw0⟩ : ∃ w0, w0 = w.alloc (.cells #[.pointer none] 27) := ⟨_, rfl⟩
  obtain ⟨b1, hb1⟩ : ∃ b, b = w.heap.size := ⟨_, rfl⟩
  have c0 : w0.cell? ⟨b1, 0, none⟩ = some (.pointer none) := by rw [hw0, hb1]; exact (Blk.new w _ _).cell 0
  have hc0 : Chg NoB w w0 := by rw [hw0]; exact (Chg.refl _ _).alloc _
  go_enter Try.func50, Try.ntmps50
  go_upto_region 1 with (fail)
  rw [← hw0, ← hb1]
  clear hw0 hb1
  go_wp2_with fail
  refine (made_nil _).mono ?_
  rintro e w1 ⟨rfl, rfl⟩
  go_wp2_with fail
  go_ret
  exact ⟨rfl, hc0⟩
set_option maxRecDepth 100000 in
set_option maxHeartbeats 1000000 in
theorem sync_zero (w : World) {g : Nat} {fuse : Int} {ms v mn : Value} {dark : Bool} (hb : Blk w g 48 (dkC 0 ms v mn fuse dark)) : Calls Try.prog 50 #[.pointer (some ⟨g, 0, none⟩)] w fun e w' => e = .returned (.int .i64 1) ∧ Chg NoB w w' := by
  have hcx := Chg.refl NoB w
  have HB := Lib.hid hb
  clear hb
  obtain ⟨w0, hw0⟩ : ∃ w0, w0 = w.alloc (.cells #[.pointer (some ⟨g, 0, none⟩)] 27) := ⟨_, rfl⟩
  obtain ⟨b1, hb1⟩ : ∃ b, b = w.heap.size := ⟨_, rfl⟩
  have c0 : w0.cell? ⟨b1, 0, none⟩ = some (.pointer (some ⟨g, 0, none⟩)) := by rw [hw0, hb1]; exact (Blk.new w _ _).cell 0
  have hc0 : Chg NoB w w0 := by rw [hw0]; exact (Chg.refl _ _).alloc _
  go_enter Try.func50, Try.ntmps50
  go_upto_region 1 with (fail)
  rw [← hw0, ← hb1]
  clear hw0 hb1
  go_wp2_with fail
  refine (made_ptr (HB.out.chg hc0 (fun h => h)) false rfl).mono ?_
  rintro e w1 ⟨rfl, rfl⟩
  go_wp2_with fail
  go_ret
  exact ⟨rfl, hc0⟩
set_option maxRecDepth 100000 in
set_option maxHeartbeats 1000000 in
theorem crash_nil (w : World) (A : Option Addr) (n c : Nat) : Calls Try.prog 24 #[.pointer none, .slice A n c] w fun e w' => e = .returned (.int .i64 1) ∧ Chg NoB w w' := by
  have hcx := Chg.refl NoB w
  obtain ⟨w0, hw0⟩ : ∃ w0, w0 = w.alloc (.cells #[.pointer none] 27) := ⟨_, rfl⟩
  obtain ⟨b1, hb1⟩ : ∃ b, b = w.heap.size := ⟨_, rfl⟩
  have c0 : w0.cell? ⟨b1, 0, none⟩ = some (.pointer none) := by rw [hw0, hb1]; exact (Blk.new w _ _).cell 0
  have hc0 : Chg NoB w w0 := by rw [hw0]; exact (Chg.refl _ _).alloc _
  go_enter Try.func24, Try.ntmps24
  go_upto_region 1 with (fail)
  rw [← hw0, ← hb1]
  clear hw0 hb1
  go_wp2_with fail
  refine (made_nil _).mono ?_
  rintro e w1 ⟨rfl, rfl⟩
  go_wp2_with fail
  go_ret
  exact ⟨rfl, hc0⟩
set_option maxRecDepth 100000 in
set_option maxHeartbeats 1000000 in
theorem crash_zero (w : World) {g : Nat} {fuse : Int} {ms v mn : Value} {dark : Bool} (hb : Blk w g 48 (dkC 0 ms v mn fuse dark)) (A : Option Addr) (n c : Nat) : Calls Try.prog 24 #[.pointer (some ⟨g, 0, none⟩), .slice A n c] w fun e w' => e = .returned (.int .i64 1) ∧ Chg NoB w w' := by
  have hcx := Chg.refl NoB w
  have HB := Lib.hid hb
  clear hb
  obtain ⟨w0, hw0⟩ : ∃ w0, w0 = w.alloc (.cells #[.pointer (some ⟨g, 0, none⟩)] 27) := ⟨_, rfl⟩
  obtain ⟨b1, hb1⟩ : ∃ b, b = w.heap.size := ⟨_, rfl⟩
  have c0 : w0.cell? ⟨b1, 0, none⟩ = some (.pointer (some ⟨g, 0, none⟩)) := by rw [hw0, hb1]; exact (Blk.new w _ _).cell 0
  have hc0 : Chg NoB w w0 := by rw [hw0]; exact (Chg.refl _ _).alloc _
  go_enter Try.func24, Try.ntmps24
  go_upto_region 1 with (fail)
  rw [← hw0, ← hb1]
  clear hw0 hb1
  go_wp2_with fail
  refine (made_ptr (HB.out.chg hc0 (fun h => h)) false rfl).mono ?_
  rintro e w1 ⟨rfl, rfl⟩
  go_wp2_with fail
  go_ret
  exact ⟨rfl, hc0⟩
set_option maxRecDepth 100000 in
set_option maxHeartbeats 1000000 in
theorem copy_nil (w : World) : Calls Try.prog 23 #[.pointer none] w fun e w' => e = .returned (.pointer none) ∧ Chg NoB w w' := by
  have hcx := Chg.refl NoB w
  go_enter Try.func23, Try.ntmps23
  go_wp2_with fail
  refine (made_nil _).mono ?_
  rintro e w1 ⟨rfl, rfl⟩
  go_wp2_with fail
  go_ret
  exact ⟨rfl, hcx⟩
set_option maxRecDepth 100000 in
set_option maxHeartbeats 1000000 in
theorem copy_zero (w : World) {g : Nat} {fuse : Int} {ms v mn : Value} {dark : Bool} (hb : Blk w g 48 (dkC 0 ms v mn fuse dark)) : Calls Try.prog 23 #[.pointer (some ⟨g, 0, none⟩)] w fun e w' => e = .returned (.pointer none) ∧ Chg NoB w w' := by
  have hcx := Chg.refl NoB w
  have HB := Lib.hid hb
  clear hb
  go_enter Try.func23, Try.ntmps23
  go_wp2_with fail
  refine (made_ptr HB.out false rfl).mono ?_
  rintro e w1 ⟨rfl, rfl⟩
  go_wp2_with fail
  go_ret
  exact ⟨rfl, hcx⟩
end Go.Proofs.Ytlhfhhbafhnbkaa
