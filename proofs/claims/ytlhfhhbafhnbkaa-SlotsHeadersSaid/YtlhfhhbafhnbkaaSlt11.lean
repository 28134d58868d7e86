/-
  SLOTS: no disk; SlotsNil.
-/
import Derived.Test.YtlhfhhbafhnbkaaSlt10
namespace Go.Proofs.Ytlhfhhbafhnbkaa
open Go.RowKit FieldM CrcM
set_option linter.unusedSimpArgs false
set_option linter.unusedVariables false
/-- a pointer to no disk: none, or to one that nothing made -/
def Rdy0 (p : Option Addr) (w : World) : Prop := ∀ w', Chg NoB w w' → Calls Try.prog 47 #[.pointer p] w' fun e w'' => e = .returned (.int .i64 1) ∧ w'' = w'
theorem Rdy0.no {p : Option Addr} {w w1 : World} (h : Rdy0 p w) (hc : Chg NoB w w1) : Rdy0 p w1 := fun w' h' => h w' (hc.trans h' (fun _ _ h => h))
theorem Rdy0.nil_ (w : World) : Rdy0 none w := fun w' _ => sready_nil w'
theorem Rdy0.zero {g : Nat} {w : World} (hb : Blk w g 48 (dkC 0 (.map none) (.slice none 0 0) (.map none) 0 false)) : Rdy0 (some ⟨g, 0, none⟩) w := fun w' hc => sready_zero w' (hb.chg hc (fun h => h))
set_option maxRecDepth 100000 in
set_option maxHeartbeats 4000000 in
theorem load_none {p : Option Addr} {W : World} (h : Rdy0 p W) : Calls Try.prog 43 #[.pointer p] W fun e w' => e = .returned (.tuple #[.slice none 0 0, .agg #[.int .i64 0, .int .i64 0, .int .i64 0, .int .i64 0], .int .i64 1]) ∧ Chg NoB W w' := by
  have HRB := Lib.hid (Blk.new W 89 #[.int .i64 0, .int .i64 0, .int .i64 0, .int .i64 0])
  have HCA := Lib.hid ((Chg.refl NoB W).alloc (.cells #[.int .i64 0, .int .i64 0, .int .i64 0, .int .i64 0] 89))
  have HR := Lib.hid (h _ HCA.out)
  clear h
  go_enter Try.func43, Try.ntmps43
  go_wp2_with fail
  refine HR.out.mono ?_
  rintro e w1 ⟨rfl, rfl⟩
  go_wp2_with (first
    | (refine wpList_store_blk rfl 89 _ _ rfl W.heap.size _ rfl rfl 89 _ HRB.out rfl head_size (by simp [Value.oneCell']) ?_)
    | fail)
  try simp only [Exit.inBlock, Exit.then]
  refine bodyPost_ret (ld_ret rfl _ _ W.heap.size 89 _ _ _ _ rfl (HRB.out.row _)) rfl ⟨rfl, HCA.out.setRow (.inr (Nat.le_refl _)) _⟩
set_option maxRecDepth 100000 in
set_option maxHeartbeats 4000000 in
theorem sload_none {p : Option Addr} {W : World} (h : Rdy0 p W) : Calls Try.prog 18 #[.pointer p] W fun e w' => e = .returned (.tuple #[.slice none 0 0, .int .i64 0, .int .i64 1]) ∧ Chg NoB W w' := by
  have HL := Lib.hid (load_none h)
  clear h
  go_enter Try.func18, Try.ntmps18
  go_wp2_with fail
  refine HL.out.mono ?_
  rintro e w1 ⟨rfl, hc⟩
  have HC := Lib.hid hc
  have hnb := Blk.new w1 89 #[.int .i64 0, .int .i64 0, .int .i64 0, .int .i64 0]
  have k0 := (hnb.row #[.int .i64 0, .int .i64 0, .int .i64 0, .int .i64 0]).cell 0
  have HNB := Lib.hid hnb
  clear hnb hc
  go_wp2_with (first
    | (refine wpList_store_blk rfl 89 _ _ rfl w1.heap.size _ rfl rfl 89 _ HNB.out rfl head_size (by simp [Value.oneCell']) ?_)
    | fail)
  go_quiet (fail)
  go_wp2_with fail
  go_ret3
  exact ⟨rfl, (((HC.out.alloc _).setRow (.inr HC.out.size) _)).drewN _⟩
set_option maxRecDepth 100000 in
set_option maxHeartbeats 4000000 in
theorem format_none {p : Option Addr} {W : World} (h : Rdy0 p W) : Calls Try.prog 20 #[.pointer p] W fun e w' => e = .returned (.int .i64 1) ∧ Chg NoB W w' := by
  have HR := Lib.hid (h _ (Chg.refl _ _))
  clear h
  go_enter Try.func20, Try.ntmps20
  go_wp2_with fail
  refine HR.out.mono ?_
  rintro e w1 ⟨rfl, rfl⟩
  go_wp2_with fail
  go_ret
  exact ⟨rfl, Chg.refl _ _⟩
set_option maxRecDepth 100000 in
set_option maxHeartbeats 4000000 in
theorem commit_none {p : Option Addr} {W : World} (h : Rdy0 p W) (A : Option Addr) (n c : Nat) : Calls Try.prog 21 #[.pointer p, .slice A n c] W fun e w' => e = .returned (.int .i64 1) ∧ Chg NoB W w' := by
  have HCA := Lib.hid ((Chg.refl NoB W).alloc (.cells #[.pointer p] 27))
  have HL := Lib.hid (load_none (h.no HCA.out))
  clear h
  go_enter Try.func21, Try.ntmps21
  go_wp2_with fail
  refine HL.out.mono ?_
  rintro e w1 ⟨rfl, hc⟩
  have HC := Lib.hid (HCA.out.trans hc (fun _ _ h => h))
  have HNB := Lib.hid (Blk.new w1 89 #[.int .i64 0, .int .i64 0, .int .i64 0, .int .i64 0])
  clear hc
  go_wp2_with (first
    | (refine wpList_store_blk rfl 89 _ _ rfl w1.heap.size _ rfl rfl 89 _ HNB.out rfl head_size (by simp [Value.oneCell']) ?_)
    | fail)
  go_ret
  exact ⟨rfl, (HC.out.alloc _).setRow (.inr HC.out.size) _⟩
theorem szero_disk (w : World) : (Instr.build 48 #[]).run Try.prog w = .ok (.agg (dkC 0 (.map none) (.slice none 0 0) (.map none) 0 false)) w := by kernel_rfl
set_option maxRecDepth 100000 in
set_option maxHeartbeats 4000000 in
theorem slotsNil_walk (a : Option Addr) (n c : Nat) (z : List Int) (b : Bool) (W : World) (_ : IsRow .u8 W a n c z) :
    Calls Try.prog 5 #[.slice a n c, .bool b] W fun e W' => e = .returned (.bool true) ∧ Below W.heap.size W W' := by
  have hz := szero_disk
  cases b with
  | false =>
    go_enter Try.func5, Try.ntmps5
    go_wp2_with fail
    refine (sload_none (Rdy0.nil_ W)).mono ?_
    rintro e w1 ⟨rfl, hc1⟩
    have HC1 := Lib.hid hc1
    clear hc1
    go_wp2_with fail
    refine (format_none (Rdy0.nil_ w1)).mono ?_
    rintro e w2 ⟨rfl, hc2⟩
    have HC2 := Lib.hid (HC1.out.trans hc2 (fun _ _ h => h))
    clear hc2
    go_wp2_with fail
    refine (commit_none (Rdy0.nil_ w2) a n c).mono ?_
    rintro e w3 ⟨rfl, hc3⟩
    have HC3 := Lib.hid (HC2.out.trans hc3 (fun _ _ h => h))
    clear hc3
    go_wp2_with fail
    refine (slives_any w3).mono ?_
    rintro e w4 ⟨rfl, hc4⟩
    have HC4 := Lib.hid (HC3.out.trans hc4 (fun _ _ h => h))
    go_wp2_with fail
    go_ret
    exact ⟨rfl, HC4.out.no⟩
  | true =>
    obtain ⟨w1, hw1⟩ : ∃ w1, w1 = W.alloc (.cells (dkC 0 (.map none) (.slice none 0 0) (.map none) 0 false) 48) := ⟨_, rfl⟩
    have HB1 := Lib.hid (show Blk w1 W.heap.size 48 (dkC 0 (.map none) (.slice none 0 0) (.map none) 0 false) from by rw [hw1]; exact Blk.new W _ _)
    have HC0 := Lib.hid (show Chg NoB W w1 from by rw [hw1]; exact (Chg.refl _ _).alloc _)
    have HR := Lib.hid (Rdy0.zero HB1.out)
    go_enter Try.func5, Try.ntmps5
    go_upto_region 4 with fail
    rw [show W.alloc (.cells #[.int .i64 0, .map none, .slice none 0 0, .map none, .int .i64 0, .bool false] 48) = w1 from hw1.symm]
    clear hw1 hz
    go_wp2_with fail
    refine (sload_none HR.out).mono ?_
    rintro e w2 ⟨rfl, hc1⟩
    have HC1 := Lib.hid hc1
    clear hc1
    go_wp2_with fail
    refine (format_none (HR.out.no HC1.out)).mono ?_
    rintro e w3 ⟨rfl, hc2⟩
    have HC2 := Lib.hid (HC1.out.trans hc2 (fun _ _ h => h))
    clear hc2
    go_wp2_with fail
    refine (commit_none (HR.out.no HC2.out) a n c).mono ?_
    rintro e w4 ⟨rfl, hc3⟩
    have HC3 := Lib.hid (HC2.out.trans hc3 (fun _ _ h => h))
    clear hc3
    go_wp2_with fail
    refine (slives_any w4).mono ?_
    rintro e w5 ⟨rfl, hc4⟩
    have HC4 := Lib.hid ((HC0.out.trans HC3.out (fun _ _ h => h)).trans hc4 (fun _ _ h => h))
    go_wp2_with fail
    go_ret
    exact ⟨rfl, HC4.out.no⟩
end Go.Proofs.Ytlhfhhbafhnbkaa
