/-
  A WHOLE ROW STORED: laws for the walk. True of any program.
-/
import Derived.Test.YtlhfhhbafhnbkaaWords
import Derived.Deep.MidRow
import Derived.Laws.CopyRow
namespace Go.Proofs.Ytlhfhhbafhnbkaa
open Go.RowKit
theorem setCells_row (g : Nat) (t : TypeId) (fr : Nat × Nat) : ∀ (vs : List Value) (o : Nat) (cur : Array Value) (w : World), w.heap[g]? = some (.cells cur t fr) → o + vs.length ≤ cur.size →
    w.setCells g o vs = w.setRow g (cur.toList.take o ++ vs ++ cur.toList.drop (o + vs.length)).toArray
  | [], o, cur, w, hg, _ => by
    simp only [World.setCells, List.append_nil, List.length_nil, Nat.add_zero, List.take_append_drop, Array.toArray_toList]
    rw [setRow_self w g cur t fr hg]
  | v :: r, o, cur, w, hg, hl => by
    simp only [World.setCells]
    rw [setCell_eq_setRow w g o cur t fr v hg]
    rw [setCells_row g t fr r (o + 1) (cur.setIfInBounds o v) (w.setRow g (cur.setIfInBounds o v)) (setRow_heap w g cur _ t _ hg) (by simp at hl ⊢; omega), setRow_setRow]
    have e := list_seg_step cur.toList o v r (by simp at hl ⊢; omega)
    congr 2
    simpa [Array.toList_setIfInBounds] using e
theorem there_blk {w : World} {g : Nat} {t : TypeId} {cs : Array Value} (h : Blk w g t cs) (o n : Nat) (hn : o + n ≤ cs.size) : w.there g o n := fun j hj => by
  refine ⟨?_, h.frozen _⟩
  rw [h.cell]; simp; omega
theorem rangeAt_blk {w : World} {g : Nat} {t : TypeId} {cs : Array Value} (h : Blk w g t cs) (o n : Nat) : w.rangeAt g o ((cs.toList.drop o).take n) := fun j v hv => by
  rw [h.cell]
  rw [List.getElem?_take] at hv
  split at hv
  · rw [List.getElem?_drop] at hv; simpa using hv
  · cases hv
/-- a store of a row or a struct into a block, from an offset on -/
theorem wpList_store_seg {P : Program} {ops : Array Oper} {rest : List Oper} {op : Oper} {a : Act} {w : World} {Q : Exit → Act → World → Prop} (hgd : op.guard = none) (ty : TypeId) (x y : Operand) (ho : op.op = .store ty x y)
    (g o : Nat) (cells : Array Value) (hx : a.eval x = .pointer (some ⟨g, o, none⟩)) (hy : a.eval y = .agg cells) (t : TypeId) (cur : Array Value) (hb : Blk w g t cur) (hle : o + cells.size ≤ cur.size)
    (hi : (P.info? ty).map (·.size) = some cells.size) (h1 : cells.all (·.oneCell') = true)
    (h : wpList P ops Q rest (a.put op.dst undef) (w.setRow g (cur.toList.take o ++ cells.toList ++ cur.toList.drop (o + cells.size)).toArray)) : wpList P ops Q (op :: rest) a w := by
  refine wpList_store_mid hgd ty x y ho g o cells hx hy (there_blk hb o _ hle) hi h1 ?_
  rw [setCells_row g t (0, 0) cells.toList o cur w hb (by simpa using hle)]
  simpa using h
/-- .. a whole block -/
theorem wpList_store_blk {P : Program} {ops : Array Oper} {rest : List Oper} {op : Oper} {a : Act} {w : World} {Q : Exit → Act → World → Prop} (hgd : op.guard = none) (ty : TypeId) (x y : Operand) (ho : op.op = .store ty x y)
    (g : Nat) (cells : Array Value) (hx : a.eval x = .pointer (some ⟨g, 0, none⟩)) (hy : a.eval y = .agg cells) (t : TypeId) (cur : Array Value) (hb : Blk w g t cur) (hle : cells.size = cur.size)
    (hi : (P.info? ty).map (·.size) = some cells.size) (h1 : cells.all (·.oneCell') = true)
    (h : wpList P ops Q rest (a.put op.dst undef) (w.setRow g cells)) : wpList P ops Q (op :: rest) a w := by
  refine wpList_store_seg hgd ty x y ho g 0 cells hx hy t cur hb (by omega) hi h1 ?_
  have e : (cur.toList.take 0 ++ cells.toList ++ cur.toList.drop (0 + cells.size)).toArray = cells := by
    rw [List.drop_of_length_le (by simp; omega)]; simp
  rw [e]; exact h
theorem Chg.setRow_new {S : Nat → Prop} {a b : World} (h : Chg S a b) {g : Nat} (hg : S g ∨ a.heap.size ≤ g) (cs : Array Value) : Chg S a (b.setRow g cs) := Chg.setRow h hg cs
end Go.Proofs.Ytlhfhhbafhnbkaa
