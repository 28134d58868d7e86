/-
  A STEP of both disks: what the walks of its kinds share.
-/
import Derived.Test.YtmkbahhnjobglaaSecRef9
namespace Go.Proofs.Ytmkbahhnjobglaa
open Go.RowKit
set_option linter.unusedSimpArgs false
set_option linter.unusedVariables false
/-- an act, by value -/
def actV (x : ActV) : Value := .agg #[.int .i64 x.kind, .int .i64 x.i, .int .u8 (x.c.toNat : Int), .int .i64 x.long, .slice x.ka x.kn x.kc]
def actC (x : ActV) : Array Value := #[.int .i64 x.kind, .int .i64 x.i, .int .u8 (x.c.toNat : Int), .int .i64 x.long, .slice x.ka x.kn x.kc]
theorem results_tct {fn : Func} {x p u : Tmp} {ty : TypeId} (h : fn.results = #[.tmp x, .cell p ty, .tmp u]) (tmps : Array Value) (P : Program) (w : World) :
    (results fn tmps).run P w =
      ((asAddr (tmps.getD p undef)).run P w).andThen fun a w₁ => ((loadVar ty a).run P w₁).andThen fun v w₂ => .ok (.tuple #[tmps.getD x undef, v, tmps.getD u undef]) w₂ := by
  simp only [results, h]
  simp [Sem.run_bind, Result.andThen]
theorem rd_ret3 {fn : Func} {x q u : Tmp} (h : fn.results = #[.tmp x, .cell q 52, .tmp u]) (tmps : Array Value) (w : World) (g : Nat) (t : TypeId) (a b c d : Value) (hq : tmps.getD q undef = .pointer (some ⟨g, 0, none⟩)) (hb : Blk w g t #[a, b, c, d]) :
    (results fn tmps).run Try.prog w = .ok (.tuple #[tmps.getD x undef, .agg #[a, b, c, d], tmps.getD u undef]) w := by
  rw [results_tct h, hq]
  simp [asAddr, run_loadVar_row w g t 52 #[a, b, c, d] (0, 0) _ hb Try.underlying52 rfl rd_size]
def StepPost (B : Nat) (w : World) (F : Nat → Prop) (n m : Nat) (e : Ending) (w' : World) : Prop :=
  ∃ g' F' s' p' K', e = .returned (.tuple #[.pointer (some ⟨g', 0, none⟩), rkV s' p' K', .bool true]) ∧ BK B w' g' F' s' p' K' n (m + 1) ∧ Chg F w w' ∧ ∀ i, F' i → F i ∨ w.heap.size ≤ i
/-- blocks that neither disk has -/
def Out (lo hi : Nat) (F : Nat → Prop) (s p : Value) : Prop := ∀ b, lo ≤ b → b < hi → ¬ F b ∧ ¬ RowsOf s p b
end Go.Proofs.Ytmkbahhnjobglaa
