/-
  OWN BYTES: a slice of bytes that the call has made, appended to; laws for the walk. True of this program's byte slices (types []uint8, uint8).
-/
import Derived.Test.YtlhfhhbafhnbkaaProg
import Derived.Test.YtlhfhhbafhnbkaaWords
import Derived.KernelRfl
import Derived.StillTailTactics
import Derived.ArgAppend
namespace Go.Proofs.Ytlhfhhbafhnbkaa
open Go.RowKit
/-- a slice of bytes that the call itself has made: it holds l, and lies at the head of a row from block base on -/
def OwnR (w : World) (base : Nat) (v : Value) (l : List UInt8) : Prop := w.ownsRow base 5 1 v l.length (l.map bv)
/-- the bytes of a constant string: full, and marked behind their last -/
def LitB (w : World) (base : Nat) (v : Value) (l : List UInt8) : Prop := ∃ g, v = .slice (some ⟨g, 0, none⟩) l.length l.length ∧ base ≤ g ∧ w.heap[g]? = some (.cells (l.map bv).toArray 5 (l.length, l.length + 1))
def OwnB (w : World) (base : Nat) (v : Value) (l : List UInt8) : Prop := OwnR w base v l ∨ LitB w base v l
theorem lt_of_heap {w : World} {g : Nat} {o : Obj} (h : w.heap[g]? = some o) : g < w.heap.size := (Array.getElem?_eq_some_iff.1 h).1
theorem u8_info : (Try.prog.info? 5).map (fun i => (i.zero, i.size, i.bytes)) = some (some (.int .u8 0), 1, 1) := by kernel_rfl
section
variable {w w' : World} {base : Nat} {v : Value} {l : List UInt8}
theorem OwnB.nil_ (w : World) (base : Nat) : OwnB w base (.slice none 0 0) [] := .inl (World.ownsRow_nil w base _ 1)
theorem OwnB.made (w : World) (c : Array Value) (hb : base ≤ w.heap.size) (hm : c.size ≤ maxLen) : OwnB (w.alloc (.cells c 5)) base (.slice (some ⟨w.heap.size, 0, none⟩) 0 c.size) [] :=
  .inl (World.ownsRow_made w c c.size hb hm (by simp))
theorem OwnB.lt (h : OwnB w base v l) (g : Nat) (e : v.ownBlock = some g) : base ≤ g ∧ g < w.heap.size := by
  rcases h with h | ⟨g', rfl, hb, hh⟩
  · exact World.ownsRow.lt h g e
  · have : g' = g := by simpa [Value.ownBlock] using e
    subst this; exact ⟨hb, lt_of_heap hh⟩
theorem OwnB.blk_ne {g : Nat} {t : TypeId} {cs : Array Value} (h : OwnB w base v l) (hg : Blk w g t cs) (hne : 5 ≠ t) : v.ownBlock ≠ some g := by
  rcases h with h | ⟨g', rfl, hb, hh⟩
  · exact own_blk_ne h hg hne
  · intro e
    have : g' = g := by simpa [Value.ownBlock] using e
    subst this
    unfold Blk at hg
    rw [hg] at hh
    injection hh with hh
    injection hh with e1 e2 e3
    exact hne e2.symm
theorem OwnB.val (h : OwnB w base v l) : ∃ A n c, v = .slice A n c ∧ l.length = n ∧ RB w w.heap.size A l ∧ n ≤ c ∧ (∀ ad, A = some ad → ad.spot = none ∧ ad.off = 0 ∧ base ≤ ad.block) := by
  rcases h with h | ⟨g, rfl, hb, hh⟩
  · rcases h.2 with ⟨rfl, hn⟩ | ⟨g, cap, cur, rfl, hb, hg, hn, hc, hs, ht⟩
    · have : l = [] := List.eq_nil_of_length_eq_zero hn
      subst this
      exact ⟨none, 0, 0, rfl, rfl, RB.none_, by simp, by intro ad h; cases h⟩
    · refine ⟨_, _, cap, rfl, rfl, ?_, hn, by intro ad h; injection h with h; subst h; exact ⟨rfl, rfl, hb⟩⟩
      exact Reads.of_own h
  · exact ⟨_, _, _, rfl, rfl, RB.of_row hh l (by simp) (lt_of_heap hh), Nat.le_refl _, by intro ad h; injection h with h; subst h; exact ⟨rfl, rfl, hb⟩⟩
theorem OwnB.base_ {base' : Nat} (h : OwnB w base v l) (hb : base' ≤ base) : OwnB w base' v l := by
  rcases h with h | ⟨g, hv, hg, hh⟩
  · left
    refine ⟨h.1, ?_⟩
    rcases h.2 with h2 | ⟨g, cap, cur, hv, hg, rest⟩
    · exact .inl h2
    · exact .inr ⟨g, cap, cur, hv, Nat.le_trans hb hg, rest⟩
  · exact .inr ⟨g, hv, Nat.le_trans hb hg, hh⟩
theorem OwnB.kept (h : OwnB w base v l) {row : Option Nat} (hg : w.grownBy w' row) (hne : v.ownBlock = none ∨ v.ownBlock ≠ row) : OwnB w' base v l := by
  rcases h with h | ⟨g, rfl, hb, hh⟩
  · exact .inl (World.ownsRow.kept h hg hne)
  · exact .inr ⟨g, rfl, hb, by rw [hg.block g (lt_of_heap hh) (by simpa [Value.ownBlock] using hne)]; exact hh⟩
theorem OwnB.set_ {g c : Nat} {n : Nat} (h : OwnB w base (.slice (some ⟨g, 0, none⟩) n c) l) (j : Nat) (b : UInt8) :
    OwnB (w.setCell ⟨g, j, none⟩ (.int .u8 (b.toNat : Int))) base (.slice (some ⟨g, 0, none⟩) n c) (l.set j b) := by
  rcases h with h | ⟨g', hv, hb, hh⟩
  · left
    rcases h.2 with ⟨hv, _⟩ | ⟨g', cap, cur, hv, hb, hg, hn, hc, hs, ht⟩
    · cases hv
    · injection hv with e1 e2 e3
      injection e1 with e1
      injection e1 with e1
      subst e1 e2 e3
      refine ⟨by simp, .inr ⟨g, c, cur.setIfInBounds j (.int .u8 (b.toNat : Int)), by simp, hb, ?_, by simpa using hn, hc, by simpa using hs, ?_⟩⟩
      · exact Blk.set_ hg j _
      · rw [Array.toList_setIfInBounds, List.length_set]
        rw [List.map_set, ← ht, List.take_set]; rfl
  · right
    injection hv with e1 e2 e3
    injection e1 with e1
    injection e1 with e1
    subst e1 e2 e3
    refine ⟨g, by simp, hb, ?_⟩
    rw [List.length_set, List.map_set]
    simp [World.setCell, Array.getElem?_modify, hh, bv]
theorem OwnB.cell {g c n : Nat} (h : OwnB w base (.slice (some ⟨g, 0, none⟩) n c) l) (j : Nat) (hj : j < l.length) : w.cell? ⟨g, j, none⟩ = some (.int .u8 ((l[j]'hj).toNat : Int)) ∧ w.frozen? ⟨g, j, none⟩ = false ∧ base ≤ g ∧ g < w.heap.size := by
  rcases h with h | ⟨g', hv, hb, hh⟩
  · rcases h.2 with ⟨hv, _⟩ | ⟨g', cap, cur, hv, hb, hg, hn, hc, hs, ht⟩
    · cases hv
    · injection hv with e1 e2 e3
      injection e1 with e1
      injection e1 with e1
      subst e1 e2 e3
      refine ⟨?_, Blk.frozen hg j, hb, Blk.lt hg⟩
      rw [Blk.cell hg j]
      have : (l.map bv)[j]? = some (bv l[j]) := by simp [hj]
      rw [← ht, List.getElem?_take] at this
      split at this
      · simpa [bv] using this
      · cases this
  · injection hv with e1 e2 e3
    injection e1 with e1
    injection e1 with e1
    subst e1 e2 e3
    refine ⟨?_, ?_, hb, lt_of_heap hh⟩
    · rw [cell_of_row w g j _ _ _ hh]
      simp [bv, hj]
    · simp [World.frozen?, hh]; omega
theorem OwnB.addr {A : Option Addr} {n c : Nat} (h : OwnB w base (.slice A n c) l) (hl : 0 < l.length) : (∃ g, A = some ⟨g, 0, none⟩) ∧ n = l.length := by
  rcases h with h | ⟨g', hv, _⟩
  · rcases h.2 with ⟨hv, hn⟩ | ⟨g', cap, cur, hv, rest⟩
    · omega
    · injection hv with e1 e2 e3
      exact ⟨⟨g', e1⟩, e2⟩
  · injection hv with e1 e2 e3
    exact ⟨⟨g', e1⟩, e2⟩
theorem Chg.own {S : Nat → Prop} {a b c : World} {base : Nat} {v : Value} {l : List UInt8} (h : Chg S a b) (ho : OwnB b base v l) (hg : b.grownBy c v.ownBlock) (hb : a.heap.size ≤ base) : Chg S a c :=
  h.grown hg fun g e => .inr (Nat.le_trans hb (OwnB.lt ho g e).1)
theorem OwnB.chg {S : Nat → Prop} (h : OwnB w base v l) (hc : Chg S w w') (hS : ∀ g, v.ownBlock = some g → ¬ S g) : OwnB w' base v l := by
  rcases h with h | ⟨g, rfl, hb, hh⟩
  · left
    refine ⟨h.1, ?_⟩
    rcases h.2 with h2 | ⟨g, cap, cur, hv, hb, hg, rest⟩
    · exact .inl h2
    · refine .inr ⟨g, cap, cur, hv, hb, ?_, rest⟩
      exact (hc.block g (lt_of_heap hg) (hS g (by rw [hv]; rfl))).trans hg
  · exact .inr ⟨g, rfl, hb, (hc.block g (lt_of_heap hh) (hS g rfl)).trans hh⟩
theorem run_appendB (base : Nat) (ty : TypeId) (hown : OwnB w base v l) (B : Nat) (A : Option Addr) (c : Nat) (m : List UInt8) (hr : RB w B A m) (hbytes : l.length + m.length ≤ 140737488355328) (hbase : base ≤ w.heap.size) :
    ∃ v' w', (Builtin.append_ #[25, 25] ty #[v, .slice A m.length c]).run Try.prog w = .ok v' w' ∧ OwnB w' base v' (l ++ m) ∧ w.grownBy w' v.ownBlock ∧ (v'.ownBlock = v.ownBlock ∨ ∀ g, v'.ownBlock = some g → w.heap.size ≤ g) := by
  obtain ⟨i0, hi, hz0, hz1, hz2⟩ := info_parts u8_info
  rcases hown with hown | ⟨g, rfl, hb, hh⟩
  · obtain ⟨v', w', h1, h2, h3, h4⟩ := run_append_any (P := Try.prog) w base 25 ty 5 i0 _ 1 1 Try.underlying25 hi hz0 hz1 hz2 rfl (by decide) v l.length (l.map bv) hown B A m.length c (m.map bv) hr (by simp [bv, Value.oneCell']) (by unfold maxLen; omega) (by omega) hbase
    exact ⟨v', w', h1, .inl (by unfold OwnR; rw [List.length_append, List.map_append]; exact h2), h3, h4.imp id (fun e g hg => by rw [e] at hg; injection hg with hg; omega)⟩
  · rcases Nat.eq_zero_or_pos m.length with hm | hm
    · have hme : m = [] := List.eq_nil_of_length_eq_zero hm
      subst hme
      refine ⟨_, w, ?_, .inr ⟨g, by simp, hb, by simpa using hh⟩, World.grownBy.refl w _, .inl rfl⟩
      cases A with
      | none => simp [Builtin.append_, run_underlying Try.underlying25, sizeOf, typeInfo, hi, Builtin.lenOf, Builtin.firstCells, storeCells]
      | some ad =>
        have h0 := run_loadCells_list (P := Try.prog) (w := w) ad [] (by simp)
        simp at h0
        simp [Builtin.append_, run_underlying Try.underlying25, sizeOf, typeInfo, hi, Builtin.lenOf, Builtin.firstCells, storeCells, h0]
    · obtain ⟨ad, hA, hab, hc⟩ := hr.2 hm
      subst hA
      obtain ⟨v', w', h1, h2, h3⟩ := run_append_arg_grows (P := Try.prog) w 25 ty 5 i0 _ 1 1 Try.underlying25 hi hz0 hz1 hz2 rfl (by decide) ⟨g, 0, none⟩ l.length l.length (l.map bv) (by simp)
        (by intro j u hu; have ha : (⟨g, 0, none⟩ : Addr).add j = ⟨g, j, none⟩ := by (unfold Addr.add; split <;> simp_all)
            rw [ha, cell_of_row w g j _ _ _ hh, ← hu]; simp) ad m.length c (m.map bv) (by simp) hc (by omega) (by unfold maxLen; omega) (by omega)
      have h4 : OwnR w' w.heap.size v' (l ++ m) := by unfold OwnR; rw [List.length_append, List.map_append]; exact h2
      have h5 : OwnB w' w.heap.size v' (l ++ m) := .inl h4
      refine ⟨v', w', h1, h5.base_ hbase, ⟨h3.os, h3.tape, h3.output, h3.size, fun k hk _ => h3.block k hk (by simp)⟩, ?_⟩
      exact .inr fun g hg => (h5.lt g hg).1
end
variable {w : World}
theorem wpList_appendB {ops : Array Oper} {rest : List Oper} {o : Oper} {a : Act} {Q : Exit → Act → World → Prop} (hgd : o.guard = none) (s x : Operand)
    (ho : o.op = .call { callee := .builtin .append, args := #[s, x], argTypes := #[25, 25] })
    (base : Nat) (v : Value) (l : List UInt8) (hs : a.eval s = v) (hown : OwnB w base v l)
    (B : Nat) (A : Option Addr) (n c : Nat) (m : List UInt8) (hn : m.length = n) (hx : a.eval x = .slice A n c) (hr : RB w B A m) (hbytes : l.length + m.length ≤ 140737488355328) (hbase : base ≤ w.heap.size)
    (h : ∀ v' w', OwnB w' base v' (l ++ m) → w.grownBy w' v.ownBlock → (v'.ownBlock = v.ownBlock ∨ ∀ g, v'.ownBlock = some g → w.heap.size ≤ g) → wpList Try.prog ops Q rest (a.put o.dst v') w') : wpList Try.prog ops Q (o :: rest) a w := by
  subst hn
  obtain ⟨v', w', hrun, h2, h3, h4⟩ := run_appendB base o.type hown B A c m hr hbytes hbase
  refine wpList_plain hgd fun K hK => ?_
  unfold Oper.wp execOp
  simp only [ho, resolve, invoke, builtin, Sem.run_bind, Sem.run_pure, Result.andThen_ok, List.map_toArray, List.map_cons, List.map_nil, hs, hx, hrun]
  exact hK _ _ (h v' w' h2 h3 h4)
theorem step_appendB {ops : Array Oper} {o : Oper} {a : Act} {K : Act → World → Prop} {Q : Exit → Act → World → Prop} {E : Prop} (hgd : o.guard = none) (s x : Operand)
    (ho : o.op = .call { callee := .builtin .append, args := #[s, x], argTypes := #[25, 25] })
    (base : Nat) (v : Value) (l : List UInt8) (hs : a.eval s = v) (hown : OwnB w base v l)
    (B : Nat) (A : Option Addr) (n c : Nat) (m : List UInt8) (hn : m.length = n) (hx : a.eval x = .slice A n c) (hr : RB w B A m) (hbytes : l.length + m.length ≤ 140737488355328) (hbase : base ≤ w.heap.size)
    (h : ∀ v' w', OwnB w' base v' (l ++ m) → w.grownBy w' v.ownBlock → (v'.ownBlock = v.ownBlock ∨ ∀ g, v'.ownBlock = some g → w.heap.size ≤ g) → K (a.put o.dst v') w') :
    if Region.wanted o (yielded ops a.tmps) = true then Oper.wp Try.prog o a w K Q else E := by
  subst hn
  obtain ⟨v', w', hrun, h2, h3, h4⟩ := run_appendB base o.type hown B A c m hr hbytes hbase
  have hw : Region.wanted o (yielded ops a.tmps) = true := by simp [Region.wanted, hgd]
  rw [if_pos hw]
  unfold Oper.wp execOp
  simp only [ho, resolve, invoke, builtin, Sem.run_bind, Sem.run_pure, Result.andThen_ok, List.map_toArray, List.map_cons, List.map_nil, hs, hx, hrun]
  exact h v' w' h2 h3 h4
end Go.Proofs.Ytlhfhhbafhnbkaa
