/-
  THE MAP AND BLOCK OPERATIONS IN THE WALK; set.
-/
import Derived.Test.YtlhfhhbafhnbkaaSec2
import Derived.Test.YtlhfhhbafhnbkaaRegionInv
import Derived.Deep.Cut
import Derived.Lib.Hide
namespace Go.Proofs.Ytlhfhhbafhnbkaa
open Go.RowKit Go.Maps
set_option linter.unusedSimpArgs false
theorem turned_chg {w w' : World} {b : Nat} (h : w.mapTurned w' b) : Chg (OneB b) w w' := (Chg.refl _ _).grown h.grown (fun g e => .inl (by injection e with e; exact e.symm))
theorem blk_infoS {l : List UInt8} (hl : l.length = 512) : (Try.prog.info? 84).map (·.size) = some (blkC l).size := by rw [blkC_size, hl]; exact blk_size
theorem fill_nil (p : Nat → Option (Nat × Nat)) (cs : Array Value) : Instr.fill p cs [] = some cs := rfl
theorem run_build0 (w : World) : (Instr.build 84 #[]).run Try.prog w = .ok (blkV zeros) w := by
  obtain ⟨i, hi, hs⟩ := byte_info
  have hz : (blkV zeros).cells = blkC zeros := rfl
  unfold Instr.build
  simp only [Sem.run_bind, run_zero_blk, Result.andThen_ok, hz, run_underlying Try.underlying84, run_sizeOf w hi, Array.toList_empty, List.toList_toArray, fill_nil]
  simp
section
variable (w : World) {ops : Array Oper} {rest : List Oper} {o : Oper} {a : Act} {Q : Exit → Act → World → Prop}
theorem wpList_build0 (hg : o.guard = none) (hop : o.op = Op.build 84 #[]) (hK : wpList Try.prog ops Q rest (a.put o.dst (blkV zeros)) w) : wpList Try.prog ops Q (o :: rest) a w := by
  refine wpList_plain hg fun K' hK' => ?_
  unfold Oper.wp
  simp only [execOp, hop, Sem.run_bind, run_build0, Result.andThen_ok, Array.map_empty, List.map_toArray, List.map_nil]
  simp only [Sem.run_pure, Result.andThen_ok]
  exact hK' _ _ hK
set_option maxRecDepth 100000 in
theorem wpList_eq_blk (hg : o.guard = none) (x y : Operand) (ty : TypeId) (hop : o.op = Op.binOp .eql 84 x y ty) (l m : List UInt8) (hx : a.eval x = blkV l) (hy : a.eval y = blkV m) (hl : l.length = 512) (hm : m.length = 512)
    (hK : wpList Try.prog ops Q rest (a.put o.dst (.bool (l == m))) w) : wpList Try.prog ops Q (o :: rest) a w := by
  refine wpList_plain hg fun K' hK' => ?_
  unfold Oper.wp
  simp only [execOp, hop, hx, hy, Sem.run_bind, run_eql_struct, run_eq_blk hl hm, Result.andThen_ok, Sem.run_pure]
  exact hK' _ _ hK
theorem wpList_lookup_blk (hg : o.guard = none) (m x : Operand) (hop : o.op = Op.lookup 45 m x false) (b : Nat) (f : Int → List UInt8) (hm : a.eval m = .map (some b)) (h : SMap w b f) (i : Int) (hx : a.eval x = .int .i64 i) (h0 : 0 ≤ i) (h1 : i < 8192)
    (hK : wpList Try.prog ops Q rest (a.put o.dst (blkV (f i))) w) : wpList Try.prog ops Q (o :: rest) a w := by
  refine wpList_plain hg fun K' hK' => ?_
  unfold Oper.wp
  simp only [execOp, hop, hm, hx, Sem.run_bind, (h.look h0 h1).1, Result.andThen_ok, Sem.run_pure]
  exact hK' _ _ hK
theorem wpList_put_blk (hg : o.guard = none) (m x v : Operand) (hop : o.op = Op.mapUpdate 45 m x v) (b : Nat) (f : Int → List UInt8) (hm : a.eval m = .map (some b)) (h : SMap w b f) (i : Int) (hx : a.eval x = .int .i64 i) (h0 : 0 ≤ i) (h1 : i < 8192) (l : List UInt8) (hv : a.eval v = blkV l) (hl : l.length = 512)
    (hK : ∀ w', SMap w' b (upd f i l) → Chg (OneB b) w w' → wpList Try.prog ops Q rest (a.put o.dst undef) w') : wpList Try.prog ops Q (o :: rest) a w := by
  refine wpList_plain hg fun K' hK' => ?_
  obtain ⟨w', hrun, h2, h3⟩ := h.put h0 h1 hl
  unfold Oper.wp
  simp only [execOp, hop, hm, hx, hv, Sem.run_bind, hrun, Result.andThen_ok, Sem.run_pure]
  exact hK' _ _ (hK w' h2 (turned_chg h3))
theorem wpList_del_blk (hg : o.guard = none) (m x : Operand) (hop : o.op = Op.call { callee := Callee.builtin Builtin.delete, args := #[m, x], argTypes := #[45, 3] }) (b : Nat) (f : Int → List UInt8) (hm : a.eval m = .map (some b)) (h : SMap w b f) (i : Int) (hx : a.eval x = .int .i64 i) (h0 : 0 ≤ i) (h1 : i < 8192)
    (hK : ∀ w', SMap w' b (upd f i zeros) → Chg (OneB b) w w' → wpList Try.prog ops Q rest (a.put o.dst (.tuple #[])) w') : wpList Try.prog ops Q (o :: rest) a w := by
  refine wpList_plain hg fun K' hK' => ?_
  obtain ⟨w', hrun, h2, h3⟩ := h.del h0 h1 o.type
  unfold Oper.wp
  simp [execOp, hop, resolve, invoke, builtin, hm, hx, hrun, Result.andThen]
  exact hK' _ _ (hK w' h2 (turned_chg h3))
end
set_option maxRecDepth 100000 in
set_option maxHeartbeats 2000000 in
theorem set_any (b : Nat) (f : Int → List UInt8) (i : Int) (l : List UInt8) (w : World) (h : SMap w b f) (h0 : 0 ≤ i) (h1 : i < 8192) (hl : l.length = 512) :
    Calls Try.prog 41 #[.map (some b), .int .i64 i, blkV l] w fun e w' => (∃ v, e = .returned v) ∧ SMap w' b (upd f i l) ∧ Chg (OneB b) w w' := by
  obtain ⟨w1, hw1⟩ : ∃ w1, w1 = w.alloc (.cells (blkC l) 84) := ⟨_, rfl⟩
  obtain ⟨g, hg⟩ : ∃ g, g = w.heap.size := ⟨_, rfl⟩
  have hb : Blk w1 g 84 (blkC l) := by rw [hw1, hg]; exact Blk.new w _ _
  have hm : SMap w1 b f := by rw [hw1]; exact h.alloc _
  have hc : Chg (OneB b) w w1 := by rw [hw1]; exact (Chg.refl _ _).alloc _
  have HR := Lib.hid (show 0 ≤ i ∧ i < 8192 from ⟨h0, h1⟩)
  have HL := Lib.hid hl
  have HM := Lib.hid hm
  have HB := Lib.hid hb
  have HC := Lib.hid hc
  clear h0 h1 hl hm h hb hc
  go_enter Try.func41, Try.ntmps41
  go_upto_region 1 with (fail)
  rw [← hw1, ← hg]
  clear hw1 hg
  go_wp2_with (first
    | (refine wpList_load_row rfl 84 _ rfl g rfl 84 _ (0, 0) _ HB.out Try.underlying84 rfl (blk_infoS HL.out) ?_)
    | (refine wpList_build0 _ rfl rfl ?_)
    | (refine wpList_eq_blk _ rfl _ _ _ rfl l zeros rfl rfl HL.out zeros_len ?_)
    | (at_delete; refine wpList_del_blk _ rfl _ _ rfl b f rfl HM.out i rfl HR.out.1 HR.out.2 ?_; intro w2 hm2 hc2)
    | (at_mapUpdate; refine wpList_put_blk _ rfl _ _ _ rfl b f rfl HM.out i rfl HR.out.1 HR.out.2 l rfl HL.out ?_; intro w2 hm2 hc2)
    | fail)
  · have hz := ‹(l == zeros) = true›
    (try simp only [Exit.inBlock, Exit.then])
    refine bodyPost_ret (results_none rfl _ _ _) rfl ?_
    refine ⟨⟨_, rfl⟩, ?_, HC.out.trans hc2 (fun _ _ h => h)⟩
    have e : l = zeros := by simpa using hz
    rw [e]; exact hm2
  · go_end0
    exact ⟨⟨_, rfl⟩, hm2, HC.out.trans hc2 (fun _ _ h => h)⟩
end Go.Proofs.Ytlhfhhbafhnbkaa
