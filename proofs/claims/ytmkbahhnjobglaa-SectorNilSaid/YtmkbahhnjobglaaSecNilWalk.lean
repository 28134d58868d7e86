/-
  THE WALK of SectorNil.
-/
import Derived.Test.YtmkbahhnjobglaaSec18
import Derived.Test.YtmkbahhnjobglaaSecNil
namespace Go.Proofs.Ytmkbahhnjobglaa
open Go.RowKit
set_option linter.unusedSimpArgs false
theorem zero_disk (w : World) : (Instr.build 62 #[]).run Try.prog w = .ok (.agg (dkC 0 (.map none) (.slice none 0 0) (.map none) 0 false)) w := by kernel_rfl
set_option maxRecDepth 100000 in
set_option maxHeartbeats 4000000 in
theorem sectorNil_walk (i : Int) (a1 : Option Addr) (len1 cap1 : Nat) (z1 : List Int) (a2 : Option Addr) (len2 cap2 : Nat) (z2 : List Int) (b : Bool) (W : World) (_ : (Lit.int .i64 i).wf = true) (_ : IsRow .u8 W a1 len1 cap1 z1) (_ : IsRow .i64 W a2 len2 cap2 z2) :
    Calls Try.prog 9 #[.int .i64 i, .slice a1 len1 cap1, .slice a2 len2 cap2, .bool b] W fun e W' => e = .returned (.bool true) ∧ Below W.heap.size W W' := by
  have hz := zero_disk
  cases b with
  | false =>
    go_enter Try.func9, Try.ntmps9
    go_wp2_with fail
    refine (read_nil i W).mono ?_
    rintro e w1 ⟨rfl, rfl⟩
    go_wp2_with fail
    refine (write_nil w1 i a1 len1 cap1).mono ?_
    rintro e w2 ⟨rfl, hc2⟩
    go_wp2_with fail
    refine (sync_nil w2).mono ?_
    rintro e w3 ⟨rfl, hc3⟩
    go_wp2_with fail
    refine (fuse_nil w3 i).mono ?_
    rintro e w4 ⟨⟨v4, rfl⟩, rfl⟩
    go_wp2_with fail
    refine (crash_nil w4 a2 len2 cap2).mono ?_
    rintro e w5 ⟨rfl, hc5⟩
    go_wp2_with fail
    refine (len_nil w5).mono ?_
    rintro e w6 ⟨rfl, rfl⟩
    go_wp2_with fail
    refine (loose_nil w6).mono ?_
    rintro e w7 ⟨rfl, rfl⟩
    go_wp2_with fail
    refine (dark_nil w7).mono ?_
    rintro e w8 ⟨rfl, rfl⟩
    go_wp2_with fail
    refine (copy_nil w8).mono ?_
    rintro e w9 ⟨rfl, hc9⟩
    go_wp2_with fail
    refine (lives_any w9).mono ?_
    rintro e w10 ⟨rfl, hc10⟩
    go_wp2_with fail
    go_ret
    exact ⟨rfl, ((((hc2.trans hc3 (fun _ _ h => h)).trans hc5 (fun _ _ h => h)).trans hc9 (fun _ _ h => h)).trans hc10 (fun _ _ h => h)).no⟩
  | true =>
    obtain ⟨w1, hw1⟩ : ∃ w1, w1 = W.alloc (.cells (dkC 0 (.map none) (.slice none 0 0) (.map none) 0 false) 62) := ⟨_, rfl⟩
    have HB1 := Lib.hid (show Blk w1 W.heap.size 62 (dkC 0 (.map none) (.slice none 0 0) (.map none) 0 false) from by rw [hw1]; exact Blk.new W _ _)
    have HC1 := Lib.hid (show Chg NoB W w1 from by rw [hw1]; exact (Chg.refl _ _).alloc _)
    go_enter Try.func9, Try.ntmps9
    go_upto_region 4 with fail
    rw [show W.alloc (.cells #[.int .i64 0, .map none, .slice none 0 0, .map none, .int .i64 0, .bool false] 62) = w1 from hw1.symm]
    clear hw1 hz
    go_wp2_with fail
    refine (read_zero i _ HB1.out).mono ?_
    rintro e w2 ⟨rfl, rfl⟩
    go_wp2_with fail
    refine (write_zero _ HB1.out i a1 len1 cap1).mono ?_
    rintro e w3 ⟨rfl, hc3⟩
    have HB3 := Lib.hid (HB1.out.chg hc3 (fun h => h))
    have HC3 := Lib.hid (HC1.out.trans hc3 (fun _ _ h => h))
    clear hc3 HB1 HC1
    go_wp2_with fail
    refine (sync_zero _ HB3.out).mono ?_
    rintro e w4 ⟨rfl, hc4⟩
    have HB4 := Lib.hid (HB3.out.chg hc4 (fun h => h))
    have HC4 := Lib.hid (HC3.out.trans hc4 (fun _ _ h => h))
    clear hc4 HB3 HC3
    go_wp2_with fail
    refine (fuse_zero HB4.out i).mono ?_
    rintro e w5 ⟨⟨v5, rfl⟩, rfl⟩
    go_wp2_with fail
    refine (crash_zero _ HB4.out a2 len2 cap2).mono ?_
    rintro e w6 ⟨rfl, hc6⟩
    have HB6 := Lib.hid (HB4.out.chg hc6 (fun h => h))
    have HC6 := Lib.hid (HC4.out.trans hc6 (fun _ _ h => h))
    clear hc6 HB4 HC4
    go_wp2_with fail
    refine (len_ptr HB6.out (by decide)).mono ?_
    rintro e w7 ⟨rfl, rfl⟩
    go_wp2_with fail
    refine (loose_zero HB6.out).mono ?_
    rintro e w8 ⟨rfl, rfl⟩
    go_wp2_with fail
    refine (dark_ptr HB6.out false rfl).mono ?_
    rintro e w9 ⟨rfl, rfl⟩
    go_wp2_with fail
    refine (copy_zero _ HB6.out).mono ?_
    rintro e w10 ⟨rfl, hc10⟩
    have HC10 := Lib.hid (HC6.out.trans hc10 (fun _ _ h => h))
    clear hc10 HB6 HC6
    go_wp2_with fail
    refine (lives_any w10).mono ?_
    rintro e w11 ⟨rfl, hc11⟩
    go_wp2_with fail
    go_ret
    exact ⟨rfl, (HC10.out.trans hc11 (fun _ _ h => h)).no⟩
end Go.Proofs.Ytmkbahhnjobglaa
