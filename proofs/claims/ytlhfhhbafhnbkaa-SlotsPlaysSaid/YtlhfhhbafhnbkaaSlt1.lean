/-
  SLOTS: the header's bytes; the zero header; a copy into 512 bytes; equality of headers.
-/
import Derived.Test.YtlhfhhbafhnbkaaSecDI
import Derived.Test.YtlhfhhbafhnbkaaFld4
import Derived.Test.YtlhfhhbafhnbkaaCrcMore
import Derived.Laws.CopyRow
namespace Go.Proofs.Ytlhfhhbafhnbkaa
open Go.RowKit FieldM CrcM
set_option linter.unusedSimpArgs false
set_option linter.unusedVariables false
/-- the sum of bytes -/
def crcN (l : List UInt8) : Nat := (moreL 0#32 l).toNat
theorem crcN_lt (l : List UInt8) : crcN l < 4294967296 := (moreL 0#32 l).isLt
theorem crcN_U (l : List UInt8) : U (moreL 0#32 l) = (crcN l : Int) := rfl
def magic : List UInt8 := [86, 65, 76, 83]
def hd20 (gen slot size sum : Nat) : List UInt8 := (((magic ++ leB gen 4) ++ leB slot 4) ++ leB size 4) ++ leB sum 4
def hd24 (gen slot size sum : Nat) : List UInt8 := hd20 gen slot size sum ++ leB (crcN (hd20 gen slot size sum)) 4
def hdr (gen slot size sum : Nat) : List UInt8 := hd24 gen slot size sum ++ List.replicate 488 0
theorem hd20_len (gen slot size sum : Nat) : (hd20 gen slot size sum).length = 20 := by simp [hd20, magic, leB_len]
theorem hd24_len (gen slot size sum : Nat) : (hd24 gen slot size sum).length = 24 := by simp [hd24, hd20_len, leB_len]
theorem hdr_len (gen slot size sum : Nat) : (hdr gen slot size sum).length = 512 := by unfold hdr; rw [List.length_append, hd24_len, List.length_replicate]
theorem fputL_ok {l : List UInt8} {z : Nat} (h : z < 4294967296) : fputL l (z : Int) 4 = l ++ leB z 4 ∧ putErr (z : Int) 4 = 0 := by
  have h1 : putErr (z : Int) 4 = 0 := if_pos ⟨by omega, by omega⟩
  refine ⟨?_, h1⟩
  unfold fputL; rw [if_pos h1]; simp
/-! ### the header as an array -/
theorem hdr_size : (Try.prog.info? 113).map (·.size) = some 512 := by kernel_rfl
theorem arr_size : (Try.prog.info? 83).map (·.size) = some 512 := by kernel_rfl
theorem hdr_zero : (Try.prog.info? 113).map (·.zero) = some (some (blkV zeros)) := by kernel_rfl
theorem arr_zero : (Try.prog.info? 83).map (·.zero) = some (some (blkV zeros)) := by kernel_rfl
theorem run_zero_any {t : TypeId} (h : (Try.prog.info? t).map (·.zero) = some (some (blkV zeros))) (w : World) : (zeroValue t).run Try.prog w = .ok (blkV zeros) w := by
  cases hi : Try.prog.info? t with
  | none => rw [hi] at h; cases h
  | some i =>
    rw [hi] at h
    have hz : i.zero = some (blkV zeros) := by simpa using h
    unfold zeroValue
    simp [Sem.run_bind, run_typeInfo, hi, hz]
set_option maxRecDepth 100000 in
theorem run_alloc_any {t : TypeId} (h : (Try.prog.info? t).map (·.zero) = some (some (blkV zeros))) (w : World) : (Instr.alloc t true (.tuple #[])).run Try.prog w = .ok (.pointer (some ⟨w.heap.size, 0, none⟩)) (w.alloc (.cells (blkC zeros) t)) := by
  have hz : (blkV zeros).cells = blkC zeros := rfl
  have h := run_zero_any h w
  unfold Instr.alloc
  simp only [Sem.run_bind, h, Result.andThen_ok]
  simp [newVar, newRow, hz, go_sem]
theorem wpList_alloc_any {t : TypeId} (h : (Try.prog.info? t).map (·.zero) = some (some (blkV zeros))) (w : World) {ops : Array Oper} {rest : List Oper} {o : Oper} {a : Act} {Q : Exit → Act → World → Prop} (hg : o.guard = none) (hop : o.op = Op.alloc t)
    (hK : wpList Try.prog ops Q rest (a.put o.dst (.pointer (some ⟨w.heap.size, 0, none⟩))) (w.alloc (.cells (blkC zeros) t))) : wpList Try.prog ops Q (o :: rest) a w := by
  refine wpList_plain hg fun K' hK' => ?_
  unfold Oper.wp
  simp only [execOp, hop, Sem.run_bind, run_alloc_any h, Result.andThen_ok, Sem.run_pure]
  exact hK' _ _ hK
set_option maxRecDepth 100000 in
theorem run_eq_hdr {l m : List UInt8} (hl : l.length = 512) (hm : m.length = 512) (w : World) :
    (Op.equalIn 10000 113 (blkV l) (blkV m)).run Try.prog w = .ok (l == m) w := by
  obtain ⟨i, hi, _⟩ := byte_info
  have h1 := run_equalIn_array (P := Try.prog) w 9999 (l.map bv).toArray (m.map bv).toArray Try.underlying113 hi
  have h2 := eq_items 9998 hl hm w (List.range 512) (fun i hi => List.mem_range.1 hi)
  unfold blkV blkC
  rw [h1, h2, all_range hl hm]
/-! ### a copy into 512 bytes -/
set_option maxRecDepth 100000 in
theorem run_copyB (w : World) (ty : TypeId) (g n c : Nat) (t : TypeId) (old m : List UInt8) (ad : Addr) (B : Nat) (hg : Blk w g t (blkC old)) (ho : old.length = 512) (hn : m.length = n) (hr : RB w B (some ad) m) :
    (Builtin.copy_ #[25, 25] ty #[.slice (some ⟨g, 0, none⟩) 512 512, .slice (some ad) n c]).run Try.prog w =
      .ok (goInt (Nat.min n 512)) (w.setRow g (blkC (m.take 512 ++ old.drop (Nat.min n 512)))) := by
  have hl : ((m.take 512).map bv).length = Nat.min n 512 := by simp [hn, Nat.min_comm]
  have h := run_copy_row Try.prog w 25 25 ty 5 g 0 512 512 ad n c (blkC old) t ((m.take 512).map bv) Try.underlying25 byte_size hg hl
    (fun j v hv => by
      have hv2 : (m.map bv)[j]? = some v := by
        have hj : j < 512 := by
          have := (List.getElem?_eq_some_iff.1 hv).1; simp at this; omega
        rw [← hv]; simp [List.getElem?_take, hj]
      have hm0 : 0 < m.length := by
        have := (List.getElem?_eq_some_iff.1 hv2).1; simp at this; omega
      obtain ⟨ad2, e, _, hc⟩ := hr.2 hm0
      injection e with e; subst e
      exact hc j v hv2)
    (by rw [hl, blkC_size, ho, Nat.zero_add]; exact Nat.min_le_right _ _)
    (fun v hv => by obtain ⟨b, _, rfl⟩ := List.mem_map.1 hv; rfl)
  rw [h, hl]
  congr 2
  rw [blkC_list]
  simp [blkC]
set_option maxRecDepth 100000 in
theorem wpList_copyB {ops : Array Oper} {rest : List Oper} {o : Oper} {a : Act} {Q : Exit → Act → World → Prop} (w : World) (hgd : o.guard = none) (x y : Operand) (hop : o.op = Op.call { callee := Callee.builtin Builtin.copy, args := #[x, y], argTypes := #[25, 25] }) (g n c : Nat) (t : TypeId) (old m : List UInt8) (ad : Addr) (B : Nat) (hx : a.eval x = .slice (some ⟨g, 0, none⟩) 512 512) (hy : a.eval y = .slice (some ad) n c)
    (hg : Blk w g t (blkC old)) (ho : old.length = 512) (hn : m.length = n) (hr : RB w B (some ad) m)
    (hK : wpList Try.prog ops Q rest (a.put o.dst (goInt (Nat.min n 512))) (w.setRow g (blkC (m.take 512 ++ old.drop (Nat.min n 512))))) : wpList Try.prog ops Q (o :: rest) a w := by
  refine wpList_plain hgd fun K hK' => ?_
  unfold Oper.wp execOp
  simp only [hop, resolve, invoke, builtin, Sem.run_bind, Sem.run_pure, Result.andThen_ok, List.map_toArray, List.map_cons, List.map_nil, hx, hy, run_copyB w o.type g n c t old m ad B hg ho hn hr]
  exact hK' _ _ hK
end Go.Proofs.Ytlhfhhbafhnbkaa
