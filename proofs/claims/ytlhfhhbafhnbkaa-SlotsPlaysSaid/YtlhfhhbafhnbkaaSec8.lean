/-
  THE BLOCK OPERATIONS IN A FENCE (for a range over a function).
-/
import Derived.Test.YtlhfhhbafhnbkaaSec7
import Derived.OwnWalkIn
import Derived.TacticsInMore
namespace Go.Proofs.Ytlhfhhbafhnbkaa
open Go.RowKit Go.Maps
set_option linter.unusedSimpArgs false
theorem run_alloc_put (w : World) : (Instr.alloc 86 true (.tuple #[])).run Try.prog w = .ok (.pointer (some ⟨w.heap.size, 0, none⟩)) (w.alloc (.cells (putC 0 zeros) 86)) := by
  have hz : (Value.agg (putC 0 zeros)).cells = putC 0 zeros := rfl
  have h := run_zero_put w
  unfold Instr.alloc
  simp only [Sem.run_bind, h, Result.andThen_ok]
  simp [newVar, newRow, hz, go_sem]
theorem run_store_blk {P : Program} {w : World} (ty : TypeId) (g : Nat) (cells : Array Value) (t : TypeId) (cur : Array Value) (hb : Blk w g t cur) (hle : cells.size = cur.size) (hi : (P.info? ty).map (·.size) = some cells.size) (h1 : cells.all (·.oneCell') = true) :
    (Instr.storeAt ty (.pointer (some ⟨g, 0, none⟩)) (.agg cells)).run P w = .ok () (w.setRow g cells) := by
  rw [run_storeAt_mid w g 0 ty cells (there_blk hb 0 _ (by omega)) hi h1, setCells_row g t (0, 0) cells.toList 0 cur w hb (by simp; omega)]
  have e : (cur.toList.take 0 ++ cells.toList ++ cur.toList.drop (0 + cells.toList.length)).toArray = cells := by
    rw [List.drop_of_length_le (by simp; omega)]; simp
  rw [e]
section
variable {F : Fence} {m : Nat} {P : Program} (w : World) {ops : Array Oper} {rest : List Oper} {o : Oper} {a : Act} {Q : Exit → Act → World → Prop}
theorem wpListIn_load_mid (hg : o.guard = none) (ty : TypeId) (x : Operand) (hop : o.op = .load ty x) (b q : Nat) (hx : a.eval x = .pointer (some ⟨b, q, none⟩)) (cs : List Value) (d : TypeDesc) (hc : w.rangeAt b q cs)
    (hu : P.underlying ty = some d) (hd : d.isRow = true) (hi : (P.info? ty).map (·.size) = some cs.length)
    (hK : wpListIn F m P ops Q rest (a.put o.dst (.agg cs.toArray)) w) : wpListIn F m P ops Q (o :: rest) a w := by
  refine wpListIn_plain hg fun K hK' => ?_
  unfold Oper.wpIn
  refine ⟨by simp [Oper.about, hop], ?_⟩
  rw [Oper.semAt_plain F _ _ (by rw [hop]; intro c hc'; cases hc')]
  simp only [execOp, hop, hx, Sem.run_bind, run_loadAt_mid w b q ty cs d hc hu hd hi, Result.andThen_ok, Sem.run_pure]
  exact hK' _ _ hK
theorem wpIn_load_mid {K : Act → World → Prop} (ty : TypeId) (x : Operand) (hop : o.op = .load ty x) (b q : Nat) (hx : a.eval x = .pointer (some ⟨b, q, none⟩)) (cs : List Value) (d : TypeDesc) (hc : w.rangeAt b q cs)
    (hu : P.underlying ty = some d) (hd : d.isRow = true) (hi : (P.info? ty).map (·.size) = some cs.length)
    (hK : K (a.put o.dst (.agg cs.toArray)) w) : o.wpIn F m P a w K Q := by
  unfold Oper.wpIn
  refine ⟨by simp [Oper.about, hop], ?_⟩
  rw [Oper.semAt_plain F _ _ (by rw [hop]; intro c hc'; cases hc')]
  simp only [execOp, hop, hx, Sem.run_bind, run_loadAt_mid w b q ty cs d hc hu hd hi, Result.andThen_ok, Sem.run_pure]
  exact hK
theorem wpListIn_store_blk (hg : o.guard = none) (ty : TypeId) (x y : Operand) (hop : o.op = .store ty x y) (g : Nat) (cells : Array Value) (hx : a.eval x = .pointer (some ⟨g, 0, none⟩)) (hy : a.eval y = .agg cells) (t : TypeId) (cur : Array Value) (hb : Blk w g t cur) (hle : cells.size = cur.size)
    (hi : (P.info? ty).map (·.size) = some cells.size) (h1 : cells.all (·.oneCell') = true)
    (hK : wpListIn F m P ops Q rest (a.put o.dst undef) (w.setRow g cells)) : wpListIn F m P ops Q (o :: rest) a w := by
  refine wpListIn_plain hg fun K hK' => ?_
  unfold Oper.wpIn
  refine ⟨by simp [Oper.about, hop], ?_⟩
  rw [Oper.semAt_plain F _ _ (by rw [hop]; intro c hc'; cases hc')]
  simp only [execOp, hop, hx, hy, Sem.run_bind, run_store_blk ty g cells t cur hb hle hi h1, Result.andThen_ok, Sem.run_pure]
  exact hK' _ _ hK
theorem wpListIn_alloc_put (hg : o.guard = none) (hop : o.op = Op.alloc 86)
    (hK : wpListIn F m Try.prog ops Q rest (a.put o.dst (.pointer (some ⟨w.heap.size, 0, none⟩))) (w.alloc (.cells (putC 0 zeros) 86))) : wpListIn F m Try.prog ops Q (o :: rest) a w := by
  refine wpListIn_plain hg fun K hK' => ?_
  unfold Oper.wpIn
  refine ⟨by simp [Oper.about, hop], ?_⟩
  rw [Oper.semAt_plain F _ _ (by rw [hop]; intro c hc'; cases hc')]
  simp only [execOp, hop, Sem.run_bind, run_alloc_put, Result.andThen_ok, Sem.run_pure]
  exact hK' _ _ hK
theorem wpListIn_alloc_blk (hg : o.guard = none) (hop : o.op = Op.alloc 84)
    (hK : wpListIn F m Try.prog ops Q rest (a.put o.dst (.pointer (some ⟨w.heap.size, 0, none⟩))) (w.alloc (.cells (blkC zeros) 84))) : wpListIn F m Try.prog ops Q (o :: rest) a w := by
  refine wpListIn_plain hg fun K hK' => ?_
  unfold Oper.wpIn
  refine ⟨by simp [Oper.about, hop], ?_⟩
  rw [Oper.semAt_plain F _ _ (by rw [hop]; intro c hc'; cases hc')]
  simp only [execOp, hop, Sem.run_bind, run_alloc_blk, Result.andThen_ok, Sem.run_pure]
  exact hK' _ _ hK
end
/-! ### the rows of loose writes -/
set_option maxRecDepth 20000 in
/-- the j-th write of a row, in the row's cells -/
theorem row_mid {w : World} {g cap c0 : Nat} {k : Nat} {ps : List (Int × List UInt8)} (h : w.ownsRow 0 86 513 (.slice (some ⟨g, c0, none⟩) k cap) ps.length (ps.flatMap putL)) (hps : ∀ p ∈ ps, p.2.length = 512) {j : Nat} (hj : j < ps.length) :
    w.rangeAt g (j * 513) (putL ps[j]) := by
  rcases h.2 with ⟨h1, h2⟩ | ⟨g', cap', cur, h1, hb, hg, hn, hc, hs, ht⟩
  · omega
  injection h1 with h1 h3 h4
  injection h1 with h1
  injection h1 with h1 h5
  subst h1
  intro q v hv
  have hb : Blk w g 86 cur := hg
  have hl : ∀ (ps : List (Int × List UInt8)), (∀ p ∈ ps, p.2.length = 512) → ∀ (j q : Nat) (hj : j < ps.length) (v : Value), (putL ps[j])[q]? = some v → (ps.flatMap putL)[j * 513 + q]? = some v := by
    intro ps
    induction ps with
    | nil => intro _ j q hj; simp at hj
    | cons p r ih =>
      intro hp j q hj v hv
      have hpl : (putL p).length = 513 := putL_len p.1 (hp p (by simp))
      rw [List.flatMap_cons]
      cases j with
      | zero =>
        have hq : q < 513 := by have := (List.getElem?_eq_some_iff.1 hv).1; simp only [List.getElem_cons_zero] at this; omega
        rw [List.getElem?_append_left (by omega)]
        simpa using hv
      | succ j =>
        rw [List.getElem?_append_right (by omega), hpl]
        have := ih (fun p hp' => hp p (by simp [hp'])) j q (by simpa using hj) v (by simpa using hv)
        rw [← this]; congr 1; omega
  have h6 := hl ps hps j q hj v hv
  rw [← ht] at h6
  rw [List.getElem?_take] at h6
  split at h6
  · rw [hb.cell, ← h6]; simp
  · cases h6
end Go.Proofs.Ytlhfhhbafhnbkaa
