/-
  THE REFERENCE's DISK: Arm, spend, Read.
-/
import Derived.Test.YtlhfhhbafhnbkaaSRef0
import Derived.Deep.Cut
import Derived.Laws.ResultCell
namespace Go.Proofs.Ytlhfhhbafhnbkaa
open Go.RowKit
set_option linter.unusedSimpArgs false
set_option linter.unusedVariables false
/-- a loose write of the reference, its two cells -/
def rputL (p : Int × List UInt8) : List Value := [.int .i64 p.1, strV p.2]
/-- the reference's disk, by value -/
def rdC (s p : Value) (fuse : Int) (dark : Bool) : Array Value := #[s, p, .int .i64 fuse, .bool dark]
structure RD (w : World) (s p : Value) (sure : List (List UInt8)) (loose : List (Int × List UInt8)) : Prop where
  sure : w.ownsRow 0 9 1 s sure.length (sure.map strV)
  loose : w.ownsRow 0 82 2 p loose.length (loose.flatMap rputL)
theorem rd_size : (Try.prog.info? 34).map (·.size) = some 4 := by kernel_rfl
theorem rd_ret1 {fn : Func} {q : Tmp} (h : fn.results = #[.cell q 34]) (tmps : Array Value) (w : World) (g : Nat) (t : TypeId) (a b c d : Value) (hq : tmps.getD q undef = .pointer (some ⟨g, 0, none⟩)) (hb : Blk w g t #[a, b, c, d]) :
    (results fn tmps).run Try.prog w = .ok (.agg #[a, b, c, d]) w :=
  results_cell_row h tmps w g t _ (0, 0) _ hq hb Try.underlying34 rfl rd_size
theorem rd_ret2 {fn : Func} {q u : Tmp} (h : fn.results = #[.cell q 34, .tmp u]) (tmps : Array Value) (w : World) (g : Nat) (t : TypeId) (a b c d : Value) (hq : tmps.getD q undef = .pointer (some ⟨g, 0, none⟩)) (hb : Blk w g t #[a, b, c, d]) :
    (results fn tmps).run Try.prog w = .ok (.tuple #[.agg #[a, b, c, d], tmps.getD u undef]) w := by
  rw [results_cell_tmp h, hq]
  simp [asAddr, run_loadVar_row w g t 34 #[a, b, c, d] (0, 0) _ hb Try.underlying34 rfl rd_size]
def IsSl (v : Value) : Prop := ∃ A n c, v = .slice A n c
theorem RD.sl {w : World} {s p : Value} {sure : List (List UInt8)} {loose : List (Int × List UInt8)} (h : RD w s p sure loose) : IsSl s ∧ IsSl p := by
  obtain ⟨A, c, rfl⟩ := own_slice h.sure
  obtain ⟨A', c', rfl⟩ := own_slice h.loose
  exact ⟨⟨_, _, _, rfl⟩, ⟨_, _, _, rfl⟩⟩
theorem RD.no {w w' : World} {s p : Value} {sure : List (List UInt8)} {loose : List (Int × List UInt8)} (h : RD w s p sure loose) (hc : Chg NoB w w') : RD w' s p sure loose := ⟨ownsRow_chg h.sure hc (fun _ _ h => h), ownsRow_chg h.loose hc (fun _ _ h => h)⟩
set_option maxRecDepth 100000 in
set_option maxHeartbeats 2000000 in
theorem arm_any (s p : Value) (hs : IsSl s) (hp : IsSl p) (fuse : Int) (dark : Bool) (x : Int) (w : World) :
    Calls Try.prog 32 #[.agg (rdC s p fuse dark), .int .i64 x] w fun e w' => e = .returned (.agg (rdC s p (max 0 x) dark)) ∧ Chg NoB w w' := by
  obtain ⟨A1, n1, c1, rfl⟩ := hs
  obtain ⟨A2, n2, c2, rfl⟩ := hp
  unfold rdC
  obtain ⟨m0, hm0⟩ : ∃ m0, m0 = max 0 x := ⟨_, rfl⟩
  have hmx : (if 0 < x then x else 0) = m0 := by rw [hm0]; split <;> omega
  rw [← hm0]
  clear hm0
  go_enter Try.func32, Try.ntmps32
  go_wp2_with fail
  try simp only [Exit.inBlock, Exit.then]
  refine bodyPost_ret (rd_ret1 rfl _ _ (w.heap.size + 1) 34 _ _ _ _ rfl (by simpa using Blk.new (w.alloc _) _ _)) rfl ⟨rfl, ((Chg.refl NoB w).alloc _).alloc _⟩
set_option maxRecDepth 100000 in
set_option maxHeartbeats 2000000 in
theorem rspend_any (s p : Value) (hs : IsSl s) (hp : IsSl p) (fuse : Int) (hf : -1 ≤ fuse ∧ fuse ≤ 9223372036854775807) (dark : Bool) (w : World) :
    Calls Try.prog 39 #[.agg (rdC s p fuse dark)] w fun e w' => e = .returned (.tuple #[.agg (rdC s p (if 0 < fuse then fuse - 1 else fuse) (dark || fuse == 0)), .bool (!(fuse == 0))]) ∧ Chg NoB w w' := by
  obtain ⟨A1, n1, c1, rfl⟩ := hs
  obtain ⟨A2, n2, c2, rfl⟩ := hp
  unfold rdC
  obtain ⟨hf0, hf1⟩ := hf
  have hcase : fuse = 0 ∨ fuse < 0 ∨ 0 < fuse := by omega
  go_enter Try.func39, Try.ntmps39
  rcases hcase with rfl | h | h
  all_goals
    go_wp2_with fail
    try simp only [Exit.inBlock, Exit.then]
    refine bodyPost_ret (rd_ret2 rfl _ _ (w.heap.size + 1) 34 _ _ _ _ rfl (by simpa using Blk.new (w.alloc _) _ _)) rfl ⟨by simp, ((Chg.refl NoB w).alloc _).alloc _⟩
end Go.Proofs.Ytlhfhhbafhnbkaa
