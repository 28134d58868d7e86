/-
  OWN BYTES: a slice of bytes that the call has made, appended to; laws for the walk. True of this program's byte slices (types []uint8, uint8).
-/
import Derived.Test.YtneecdajfblgbaaProg
import Derived.Test.YtneecdajfblgbaaWords
import Derived.KernelRfl
import Derived.StillTailTactics
namespace Go.Proofs.Ytneecdajfblgbaa
open Go.RowKit
/-- a slice of bytes that the call itself has made: it holds l, and lies at the head of a row from block base on -/
def OwnB (w : World) (base : Nat) (v : Value) (l : List UInt8) : Prop := w.ownsRow base 5 1 v l.length (l.map bv)
theorem u8_info : (Try.prog.info? 5).map (fun i => (i.zero, i.size, i.bytes)) = some (some (.int .u8 0), 1, 1) := by kernel_rfl
section
variable {w w' : World} {base : Nat} {v : Value} {l : List UInt8}
theorem OwnB.nil_ (w : World) (base : Nat) : OwnB w base (.slice none 0 0) [] := World.ownsRow_nil w base _ 1
theorem OwnB.made (w : World) (c : Array Value) (hb : base ≤ w.heap.size) (hm : c.size ≤ maxLen) : OwnB (w.alloc (.cells c 5)) base (.slice (some ⟨w.heap.size, 0, none⟩) 0 c.size) [] :=
  World.ownsRow_made w c c.size hb hm (by simp)
theorem OwnB.val (h : OwnB w base v l) : ∃ A n c, v = .slice A n c ∧ l.length = n ∧ RB w w.heap.size A l ∧ n ≤ c ∧ (∀ ad, A = some ad → ad.spot = none ∧ ad.off = 0 ∧ base ≤ ad.block) := by
  rcases h.2 with ⟨rfl, hn⟩ | ⟨g, cap, cur, rfl, hb, hg, hn, hc, hs, ht⟩
  · have : l = [] := List.eq_nil_of_length_eq_zero hn
    subst this
    exact ⟨none, 0, 0, rfl, rfl, RB.none_, by simp, by intro ad h; cases h⟩
  · refine ⟨_, _, cap, rfl, rfl, ?_, hn, by intro ad h; injection h with h; subst h; exact ⟨rfl, rfl, hb⟩⟩
    exact Reads.of_own h
theorem OwnB.base_ {base' : Nat} (h : OwnB w base v l) (hb : base' ≤ base) : OwnB w base' v l := by
  refine ⟨h.1, ?_⟩
  rcases h.2 with h2 | ⟨g, cap, cur, hv, hg, rest⟩
  · exact .inl h2
  · exact .inr ⟨g, cap, cur, hv, Nat.le_trans hb hg, rest⟩
theorem OwnB.kept (h : OwnB w base v l) {row : Option Nat} (hg : w.grownBy w' row) (hne : v.ownBlock = none ∨ v.ownBlock ≠ row) : OwnB w' base v l := World.ownsRow.kept h hg hne
theorem OwnB.set_ {g c : Nat} {n : Nat} (h : OwnB w base (.slice (some ⟨g, 0, none⟩) n c) l) (j : Nat) (b : UInt8) :
    OwnB (w.setCell ⟨g, j, none⟩ (.int .u8 (b.toNat : Int))) base (.slice (some ⟨g, 0, none⟩) n c) (l.set j b) := by
  rcases h.2 with ⟨hv, _⟩ | ⟨g', cap, cur, hv, hb, hg, hn, hc, hs, ht⟩
  · cases hv
  · injection hv with e1 e2 e3
    injection e1 with e1
    injection e1 with e1
    subst e1 e2 e3
    refine ⟨by simp, .inr ⟨g, c, cur.setIfInBounds j (.int .u8 (b.toNat : Int)), by simp, hb, ?_, by simpa using hn, hc, by simpa using hs, ?_⟩⟩
    · exact Blk.set_ hg j _
    · rw [Array.toList_setIfInBounds, List.length_set]
      rw [List.map_set, ← ht, List.take_set]; rfl
theorem OwnB.cell {g c n : Nat} (h : OwnB w base (.slice (some ⟨g, 0, none⟩) n c) l) (j : Nat) (hj : j < l.length) : w.cell? ⟨g, j, none⟩ = some (.int .u8 ((l[j]'hj).toNat : Int)) ∧ w.frozen? ⟨g, j, none⟩ = false ∧ base ≤ g ∧ g < w.heap.size := by
  rcases h.2 with ⟨hv, _⟩ | ⟨g', cap, cur, hv, hb, hg, hn, hc, hs, ht⟩
  · cases hv
  · injection hv with e1 e2 e3
    injection e1 with e1
    injection e1 with e1
    subst e1 e2 e3
    refine ⟨?_, Blk.frozen hg j, hb, Blk.lt hg⟩
    rw [Blk.cell hg j]
    have : (l.map bv)[j]? = some (bv l[j]) := by simp [hj]
    rw [← ht, List.getElem?_take] at this
    split at this
    · simpa [bv] using this
    · cases this
theorem OwnB.addr {A : Option Addr} {n c : Nat} (h : OwnB w base (.slice A n c) l) (hl : 0 < l.length) : (∃ g, A = some ⟨g, 0, none⟩) ∧ n = l.length := by
  rcases h.2 with ⟨hv, hn⟩ | ⟨g', cap, cur, hv, rest⟩
  · omega
  · injection hv with e1 e2 e3
    exact ⟨⟨g', e1⟩, e2⟩
theorem Chg.own {S : Nat → Prop} {a b c : World} {base : Nat} {v : Value} {l : List UInt8} (h : Chg S a b) (ho : OwnB b base v l) (hg : b.grownBy c v.ownBlock) (hb : a.heap.size ≤ base) : Chg S a c :=
  h.grown hg fun g e => .inr (Nat.le_trans hb (World.ownsRow.lt ho g e).1)
theorem OwnB.chg {S : Nat → Prop} (h : OwnB w base v l) (hc : Chg S w w') (hS : ∀ g, v.ownBlock = some g → ¬ S g) : OwnB w' base v l := by
  refine ⟨h.1, ?_⟩
  rcases h.2 with h2 | ⟨g, cap, cur, hv, hb, hg, rest⟩
  · exact .inl h2
  · refine .inr ⟨g, cap, cur, hv, hb, ?_, rest⟩
    have hlt : g < w.heap.size := by
      rcases Nat.lt_or_ge g w.heap.size with hlt | hge
      · exact hlt
      · rw [Array.getElem?_eq_none hge] at hg; cases hg
    exact (hc.block g hlt (hS g (by rw [hv]; rfl))).trans hg
end
variable {w : World}
theorem wpList_appendB {ops : Array Oper} {rest : List Oper} {o : Oper} {a : Act} {Q : Exit → Act → World → Prop} (hgd : o.guard = none) (s x : Operand)
    (ho : o.op = .call { callee := .builtin .append, args := #[s, x], argTypes := #[22, 22] })
    (base : Nat) (v : Value) (l : List UInt8) (hs : a.eval s = v) (hown : OwnB w base v l)
    (B : Nat) (A : Option Addr) (n c : Nat) (m : List UInt8) (hn : m.length = n) (hx : a.eval x = .slice A n c) (hr : RB w B A m) (hbytes : l.length + m.length ≤ 140737488355328) (hbase : base ≤ w.heap.size)
    (h : ∀ v' w', OwnB w' base v' (l ++ m) → w.grownBy w' v.ownBlock → (v'.ownBlock = v.ownBlock ∨ v'.ownBlock = some w.heap.size) → wpList Try.prog ops Q rest (a.put o.dst v') w') : wpList Try.prog ops Q (o :: rest) a w := by
  subst hn
  obtain ⟨i0, hi, hz0, hz1, hz2⟩ := info_parts u8_info
  refine wpList_append_any w hgd s x 22 ho base 5 i0 _ 1 1 Try.underlying22 hi hz0 hz1 hz2 rfl (by decide) v l.length (l.map bv) hs hown B A m.length c (m.map bv) hx hr (by simp [bv, Value.oneCell']) (by unfold maxLen; omega) (by omega) hbase ?_
  intro v' w' h1 h2 h3
  refine h v' w' ?_ h2 h3
  unfold OwnB
  rw [List.length_append, List.map_append]; exact h1
theorem step_appendB {ops : Array Oper} {o : Oper} {a : Act} {K : Act → World → Prop} {Q : Exit → Act → World → Prop} {E : Prop} (hgd : o.guard = none) (s x : Operand)
    (ho : o.op = .call { callee := .builtin .append, args := #[s, x], argTypes := #[22, 22] })
    (base : Nat) (v : Value) (l : List UInt8) (hs : a.eval s = v) (hown : OwnB w base v l)
    (B : Nat) (A : Option Addr) (n c : Nat) (m : List UInt8) (hn : m.length = n) (hx : a.eval x = .slice A n c) (hr : RB w B A m) (hbytes : l.length + m.length ≤ 140737488355328) (hbase : base ≤ w.heap.size)
    (h : ∀ v' w', OwnB w' base v' (l ++ m) → w.grownBy w' v.ownBlock → (v'.ownBlock = v.ownBlock ∨ v'.ownBlock = some w.heap.size) → K (a.put o.dst v') w') :
    if Region.wanted o (yielded ops a.tmps) = true then Oper.wp Try.prog o a w K Q else E := by
  subst hn
  obtain ⟨i0, hi, hz0, hz1, hz2⟩ := info_parts u8_info
  refine step_append_any w hgd s x 22 ho base 5 i0 _ 1 1 Try.underlying22 hi hz0 hz1 hz2 rfl (by decide) v l.length (l.map bv) hs hown B A m.length c (m.map bv) hx hr (by simp [bv, Value.oneCell']) (by unfold maxLen; omega) (by omega) hbase ?_
  intro v' w' h1 h2 h3
  refine h v' w' ?_ h2 h3
  unfold OwnB
  rw [List.length_append, List.map_append]; exact h1
end Go.Proofs.Ytneecdajfblgbaa
