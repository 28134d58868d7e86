/-
  LOOSE WRITES AS VALUES: build, a new row of one, append; an array out of a slice.
-/
import Derived.Test.YtlhfhhbafhnbkaaSec5
import Derived.Great.BuildSlice
import Derived.Laws.Tables
namespace Go.Proofs.Ytlhfhhbafhnbkaa
open Go.RowKit Go.Maps
set_option linter.unusedSimpArgs false
def putC (i : Int) (l : List UInt8) : Array Value := (putL (i, l)).toArray
theorem putL_len (i : Int) {l : List UInt8} (hl : l.length = 512) : (putL (i, l)).length = 513 := by simp [putL, hl]
theorem putC_size (i : Int) {l : List UInt8} (hl : l.length = 512) : (putC i l).size = 513 := by simp [putC, putL_len i hl]
theorem put_one (i : Int) (l : List UInt8) : ∀ u ∈ putL (i, l), u.oneCell' = true := by
  intro u hu
  unfold putL at hu
  rcases List.mem_cons.1 hu with rfl | hu
  · rfl
  · obtain ⟨b, _, rfl⟩ := List.mem_map.1 hu
    rfl
theorem putC_one (i : Int) (l : List UInt8) : (putC i l).all (·.oneCell') = true := by
  rw [Array.all_eq_true]
  intro k hk
  exact put_one i l _ (by simp [putC] at hk ⊢)
theorem fold_set : ∀ (cs : List Value) (off k : Nat) (base : Array Value), off + k + cs.length ≤ base.size →
    ((cs.zipIdx k).foldl (fun a (p : Value × Nat) => a.setIfInBounds (off + p.2) p.1) base) = (base.toList.take (off + k) ++ cs ++ base.toList.drop (off + k + cs.length)).toArray
  | [], off, k, base, h => by simp
  | c :: cs, off, k, base, h => by
    simp only [List.length_cons] at h
    rw [List.zipIdx_cons, List.foldl_cons, fold_set cs off (k + 1) (base.setIfInBounds (off + k) c) (by rw [Array.size_setIfInBounds]; omega)]
    apply congrArg List.toArray
    simp only [Array.toList_setIfInBounds, List.length_cons]
    have hlt : off + k < base.toList.length := by rw [Array.length_toList]; omega
    have e1 : (base.toList.set (off + k) c).take (off + (k + 1)) = base.toList.take (off + k) ++ [c] := by
      rw [show off + (k + 1) = off + k + 1 by omega, List.take_add_one, List.getElem?_set_self hlt, List.take_set_of_le (Nat.le_refl _)]
      rfl
    have e2 : (base.toList.set (off + k) c).drop (off + (k + 1) + cs.length) = base.toList.drop (off + k + (cs.length + 1)) := by
      rw [List.drop_set_of_lt (by omega)]
      congr 1; omega
    rw [e1, e2]; simp
theorem put_info : (Try.prog.info? 86).map (fun i => (i.size, i.bytes)) = some (513, 520) := by kernel_rfl
theorem put_zero : (Try.prog.info? 86).map (·.zero) = some (some (.agg (putC 0 zeros))) := by kernel_rfl
theorem put_infoE : ∃ i, Try.prog.info? 86 = some i ∧ i.size = 513 ∧ i.bytes = 520 ∧ i.zero = some (.agg (putC 0 zeros)) := by
  have h1 := put_info
  have h2 := put_zero
  cases hi : Try.prog.info? 86 with
  | none => rw [hi] at h1; cases h1
  | some i =>
    rw [hi] at h1 h2
    simp only [Option.map_some, Option.some.injEq, Prod.mk.injEq] at h1 h2
    exact ⟨i, rfl, h1.1, h1.2, h2⟩
theorem put_infoS (i : Int) {l : List UInt8} (hl : l.length = 512) : (Try.prog.info? 86).map (·.size) = some (putC i l).size := by
  obtain ⟨j, hj, hs, _⟩ := put_infoE
  rw [hj, putC_size i hl, ← hs]; rfl
theorem run_zero_put (w : World) : (zeroValue 86).run Try.prog w = .ok (.agg (putC 0 zeros)) w := by
  obtain ⟨i, hi, _, _, hz⟩ := put_infoE
  unfold zeroValue
  simp [Sem.run_bind, run_typeInfo, hi, hz]
theorem fill_put (base : Array Value) (hb : base.size = 513) (i : Int) {l : List UInt8} (hl : l.length = 512) :
    Instr.fill (fun k => (#[(0, 1), (1, 512)] : Array (Nat × Nat))[k]?) base [(0, .int .i64 i), (1, blkV l)] = some (putC i l) := by
  have hc : (Value.int .i64 i).cells = #[.int .i64 i] := rfl
  have hc2 : (blkV l).cells = blkC l := rfl
  obtain ⟨b, rfl⟩ : ∃ b : List Value, base = b.toArray := ⟨base.toList, by simp⟩
  have hb2 : b.length = 513 := by simpa using hb
  have hs1 : (b.set 0 (Value.int .i64 i)).length = 513 := by simpa using hb2
  simp only [Instr.fill, hc, hc2, blkC_size, hl]
  have hz : ((blkC l).zipIdx.foldl (fun cs (x : Value × Nat) => cs.setIfInBounds (1 + x.2) x.1) (b.set 0 (Value.int .i64 i)).toArray) = putC i l := by
    rw [← Array.foldl_toList, Array.toList_zipIdx, blkC_list, fold_set _ 1 0 _ (by simp [hb2, hl])]
    unfold putC putL
    apply congrArg List.toArray
    rw [List.drop_of_length_le (by simp [hb2, hl])]
    cases b with
    | nil => simp at hb2
    | cons x r => simp
  have hzz : (blkC l).size = (blkC l).zipIdx.size := by simp
  simp [hb2]
  rw [hzz]
  exact hz
theorem int_sizeE : ∃ j, Try.prog.info? 3 = some j ∧ j.size = 1 := by
  have h : (Try.prog.info? 3).map (·.size) = some 1 := by kernel_rfl
  cases hi : Try.prog.info? 3 with
  | none => rw [hi] at h; cases h
  | some i => rw [hi] at h; exact ⟨i, rfl, by simpa using h⟩
theorem blk_sizeE : ∃ j, Try.prog.info? 84 = some j ∧ j.size = 512 := by
  have h := blk_size
  cases hi : Try.prog.info? 84 with
  | none => rw [hi] at h; cases h
  | some i => rw [hi] at h; exact ⟨i, rfl, by simpa using h⟩
theorem built_put (i : Int) {l : List UInt8} (hl : l.length = 512) : Try.prog.built 86 [(0, .int .i64 i), (1, blkV l)] = some (putC i l) := by
  obtain ⟨it, hit, _, _, hz⟩ := put_infoE
  obtain ⟨j3, h3, s3⟩ := int_sizeE
  obtain ⟨jb, hb, sb⟩ := blk_sizeE
  unfold Program.built
  rw [hit, Try.underlying86]
  simp only [hz, List.mapM_cons, List.mapM_nil, h3, hb, s3, sb, Option.map_some, Option.bind_eq_bind, Option.bind_some, Option.pure_def]
  exact fill_put _ (putC_size 0 zeros_len) i hl
section
variable (w : World) {ops : Array Oper} {rest : List Oper} {o : Oper} {a : Act} {Q : Exit → Act → World → Prop}
theorem wpList_build_put (hg : o.guard = none) (x y : Operand) (hop : o.op = Op.build 86 #[(0, x), (1, y)]) (i : Int) (l : List UInt8) (hx : a.eval x = .int .i64 i) (hy : a.eval y = blkV l) (hl : l.length = 512)
    (hK : wpList Try.prog ops Q rest (a.put o.dst (.agg (putC i l))) w) : wpList Try.prog ops Q (o :: rest) a w := by
  refine wpList_plain hg fun K' hK' => ?_
  have hr := run_build (P := Try.prog) w 86 #[(0, .int .i64 i), (1, blkV l)] (putC i l) (built_put i hl)
  unfold Oper.wp
  simp only [execOp, hop, List.map_toArray, List.map_cons, List.map_nil, hx, hy, Sem.run_bind, hr, Result.andThen_ok, Sem.run_pure]
  exact hK' _ _ hK
theorem fill_row (base : Array Value) (hb : base.size = 513) (i : Int) {l : List UInt8} (hl : l.length = 512) (s : Nat) (hs : s = 513) :
    Instr.fill (fun k => some (k * s, s)) base [(0, .agg (putC i l))] = some (putC i l) := by
  subst hs
  have hc : (Value.agg (putC i l)).cells = putC i l := rfl
  have hz : ((putC i l).zipIdx.foldl (fun cs (x : Value × Nat) => cs.setIfInBounds (0 + x.2) x.1) base) = putC i l := by
    rw [← Array.foldl_toList, Array.toList_zipIdx, fold_set _ 0 0 _ (by rw [hb, Array.length_toList, putC_size i hl]; omega)]
    rw [List.drop_of_length_le (by rw [Array.length_toList, Array.length_toList, hb, putC_size i hl]; omega)]
    simp
  simp only [Instr.fill, hc, Nat.zero_mul]
  rw [if_neg (by simp [putC_size i hl, hb])]
  exact congrArg some hz
theorem wpList_row_put (hg : o.guard = none) (x : Operand) (hop : o.op = Op.buildSlice 46 1 #[(0, x)]) (i : Int) (l : List UInt8) (hx : a.eval x = .agg (putC i l)) (hl : l.length = 512)
    (hK : wpList Try.prog ops Q rest (a.put o.dst (.slice (some ⟨w.heap.size, 0, none⟩) 1 1)) (w.alloc (.cells (putC i l) 86))) : wpList Try.prog ops Q (o :: rest) a w := by
  obtain ⟨it, hit, hs, _, hz⟩ := put_infoE
  refine wpList_buildSlice hg 46 86 1 _ hop (putC i l) it _ Try.underlying46 hit hz (by rw [hs]; decide) (by rw [hs]; decide) ?_ hK
  simp only [List.map_toArray, List.map_cons, List.map_nil, hx]
  exact fill_row _ (by simp [hs]) i hl _ hs
end
end Go.Proofs.Ytlhfhhbafhnbkaa
