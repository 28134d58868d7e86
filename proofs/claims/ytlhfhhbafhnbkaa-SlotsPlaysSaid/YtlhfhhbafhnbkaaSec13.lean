/-
  MORE BLOCK OPERATIONS IN A FENCE (for Crash); what a crash leaves.
-/
import Derived.Test.YtlhfhhbafhnbkaaSec12
import Derived.Laws.CopyRow
namespace Go.Proofs.Ytlhfhhbafhnbkaa
open Go.RowKit Go.Maps
set_option linter.unusedSimpArgs false
theorem IB.mono {w : World} {B B' : Nat} {A : Option Addr} {l : List Int} (h : IB w B A l) (hB : B ≤ B') : IB w B' A l := ⟨h.1, fun hn => by obtain ⟨ad, e, hb, r⟩ := h.2 hn; exact ⟨ad, e, Nat.lt_of_lt_of_le hb hB, r⟩⟩
theorem equalIn_slice_nil (w : World) (d : Nat) (A : Option Addr) (n c : Nat) : (Op.equalIn (d + 1) 63 (.slice A n c) (.slice none 0 0)).run Try.prog w = .ok A.isNone w := by
  cases A <;> simp [Op.equalIn, run_underlying Try.underlying63]
theorem eql_slice_nil (w : World) (A : Option Addr) (n c : Nat) : (binOp .eql 63 (.slice A n c) (.slice none 0 0)).run Try.prog w = .ok (.bool A.isNone) w := by
  simp only [binOp]
  simp [Op.equal, Op.maxDepth, equalIn_slice_nil w 9999 A n c]
set_option maxRecDepth 100000 in
theorem run_copy_blk (w : World) (ty : TypeId) (g b c1 c2 N : Nat) (old new : List UInt8) (hg : Blk w g 84 (blkC old)) (ho : old.length = 512) (hN : N ≤ 512) (hn : new.length = 512) (hsrc : w.rangeAt b 1 (new.map bv)) :
    (Builtin.copy_ #[25, 25] ty #[.slice (some ⟨g, 0, none⟩) N c1, .slice (some ⟨b, 1, none⟩) N c2]).run Try.prog w =
      .ok (goInt N) (w.setRow g (blkC (new.take N ++ old.drop N))) := by
  have hl : ((new.take N).map bv).length = N := by simp; omega
  have h := run_copy_row Try.prog w 25 25 ty 5 g 0 N c1 ⟨b, 1, none⟩ N c2 (blkC old) 84 ((new.take N).map bv) Try.underlying25 byte_size hg (by rw [hl]; exact (Nat.min_self N).symm)
    (fun j v hv => by
      have ha : (⟨b, 1, none⟩ : Addr).add j = ⟨b, 1 + j, none⟩ := by unfold Addr.add; split <;> simp_all
      rw [ha]
      refine hsrc j v ?_
      have hj : j < N := by
        have := (List.getElem?_eq_some_iff.1 hv).1; omega
      rw [← hv]; simp [List.getElem?_take, hj])
    (by rw [hl, blkC_size, ho]; omega)
    (fun v hv => by obtain ⟨b, _, rfl⟩ := List.mem_map.1 hv; rfl)
  rw [h, hl]
  congr 2
  rw [blkC_list]
  simp [blkC]
set_option maxRecDepth 100000 in
theorem blk_len : Try.prog.arrayLen 84 = 512 := by kernel_rfl
theorem blk_elem : Try.prog.elem 84 = 5 := by kernel_rfl
set_option maxRecDepth 100000 in
theorem run_sliceAt_blk (w : World) (g o NN : Nat) (hN : NN ≤ 512) : (Instr.sliceAt 84 (.pointer (some ⟨g, o, none⟩)) none (some (.int .i64 (NN : Int))) none).run Try.prog w = .ok (.slice (some ⟨g, o, none⟩) NN 512) w := by
  obtain ⟨i, hi, _⟩ := byte_info
  rw [run_sliceAt_array_h (P := Try.prog) (w := w) 84 ⟨g, o, none⟩ Try.underlying84 .i64 NN (by omega) (by rw [blk_len]; omega), blk_elem, run_sizeOf w hi, blk_len]
  simp [slicedAt, Addr.add]
section
variable {F : Fence} {m : Nat} (w : World) {ops : Array Oper} {rest : List Oper} {o : Oper} {a : Act} {Q : Exit → Act → World → Prop}
theorem wpListIn_lookup_blk (hg : o.guard = none) (mm x : Operand) (hop : o.op = Op.lookup 45 mm x false) (b : Nat) (f : Int → List UInt8) (hm : a.eval mm = .map (some b)) (h : SMap w b f) (i : Int) (hx : a.eval x = .int .i64 i) (h0 : 0 ≤ i) (h1 : i < 8192)
    (hK : wpListIn F m Try.prog ops Q rest (a.put o.dst (blkV (f i))) w) : wpListIn F m Try.prog ops Q (o :: rest) a w := by
  refine wpListIn_plain hg fun K hK' => ?_
  unfold Oper.wpIn
  refine ⟨by simp [Oper.about, hop], ?_⟩
  rw [Oper.semAt_plain F _ _ (by rw [hop]; intro c hc'; cases hc')]
  simp only [execOp, hop, hm, hx, Sem.run_bind, (h.look h0 h1).1, Result.andThen_ok, Sem.run_pure]
  exact hK' _ _ hK
set_option maxRecDepth 100000 in
theorem wpListIn_copy_blk (hgd : o.guard = none) (x y : Operand) (hop : o.op = Op.call { callee := Callee.builtin Builtin.copy, args := #[x, y], argTypes := #[25, 25] }) (g b c1 c2 N : Nat) (old new : List UInt8) (hx : a.eval x = .slice (some ⟨g, 0, none⟩) N c1) (hy : a.eval y = .slice (some ⟨b, 1, none⟩) N c2)
    (hg : Blk w g 84 (blkC old)) (ho : old.length = 512) (hN : N ≤ 512) (hn : new.length = 512) (hsrc : w.rangeAt b 1 (new.map bv))
    (hK : wpListIn F m Try.prog ops Q rest (a.put o.dst (goInt N)) (w.setRow g (blkC (new.take N ++ old.drop N)))) : wpListIn F m Try.prog ops Q (o :: rest) a w := by
  refine wpListIn_plain hgd fun K hK' => ?_
  unfold Oper.wpIn
  refine ⟨by simp [Oper.about, hop, resolve, Target.leads], ?_⟩
  rw [Oper.semAt_plain F _ _ (by rw [hop]; intro c hc'; cases hc')]
  simp only [execOp, hop, resolve, invoke, builtin, Sem.run_bind, Sem.run_pure, Result.andThen_ok, List.map_toArray, List.map_cons, List.map_nil, hx, hy, run_copy_blk w o.type g b c1 c2 N old new hg ho hN hn hsrc]
  exact hK' _ _ hK
end
/-- how many bytes of a loose write stay -/
def cutN (i c : Int) : Nat := if c ≤ 0 then 0 else if 1 < c ∧ i ≠ 0 then ((c - 2) % 512).toNat else 512
theorem cutN_le (i c : Int) : cutN i c ≤ 512 := by unfold cutN; split; · omega
                                                   · split <;> omega
def torn (f : Int → List UInt8) (p : Int × List UInt8) (c : Int) : Int → List UInt8 := upd f p.1 (p.2.take (cutN p.1 c) ++ (f p.1).drop (cutN p.1 c))
def tear (f : Int → List UInt8) (xs : List (PutT × I64)) : Int → List UInt8 := xs.foldl (fun f x => torn f x.1.1 x.2.1) f
theorem tear_snoc (f : Int → List UInt8) (xs : List (PutT × I64)) (x : PutT × I64) : tear f (xs ++ [x]) = torn (tear f xs) x.1.1 x.2.1 := by simp [tear]
/-- what a crash leaves, by what is said of the loose writes -/
def crashF (f : Int → List UInt8) (ks : List Int) (ps : List (Int × List UInt8)) : Int → List UInt8 := (ps.zipIdx).foldl (fun f x => torn f x.1 (cOf true ks x.2)) f
theorem foldl_ofFn (f : Int → List UInt8) (ks : List Int) : ∀ (xs : List (PutT × I64)) (k : Nat), (∀ j (h : j < xs.length), xs[j].2.1 = cOf true ks (k + j)) → tear f xs = ((xs.map (fun x => x.1.1)).zipIdx k).foldl (fun f x => torn f x.1 (cOf true ks x.2)) f := by
  intro xs
  induction xs generalizing f with
  | nil => intro _ _; rfl
  | cons x r ih =>
    intro k h
    have h0 := h 0 (by simp)
    simp only [List.getElem_cons_zero, Nat.add_zero] at h0
    have h1 := ih (torn f x.1.1 x.2.1) (k + 1) (fun j hj => by have := h (j + 1) (by simpa using hj); simp only [List.getElem_cons_succ] at this; rw [this]; congr 1; omega)
    simp only [List.map_cons, List.zipIdx_cons, List.foldl_cons, ← h0]
    rw [← h1]; rfl
theorem tear_crashF (f : Int → List UInt8) (ks : List Int) (xs : List (PutT × I64)) (h : ∀ j (h : j < xs.length), xs[j].2.1 = cOf true ks j) : tear f xs = crashF f ks (xs.map (fun x => x.1.1)) := foldl_ofFn f ks xs 0 (fun j hj => by rw [Nat.zero_add]; exact h j hj)
def Dk.crash (K : Dk) (ks : List Int) : Dk := ⟨K.n, crashF K.sure ks K.loose, [], crashF K.sure ks K.loose, -1, false⟩
end Go.Proofs.Ytlhfhhbafhnbkaa
