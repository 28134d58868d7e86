/-
  SECTORS' BYTES AS VALUES: a block of 512 bytes; equality; the zero block; the reader of a map's element.
-/
import Derived.Test.YtlhfhhbafhnbkaaBytes
import Derived.Test.YtlhfhhbafhnbkaaStore
import Derived.Maps.RangeWalk
import Derived.KernelRfl
import Derived.ChangeKeysEq
import Derived.DeepKeys
import Derived.Laws.StructEq
namespace Go.Proofs.Ytlhfhhbafhnbkaa
open Go.RowKit
set_option linter.unusedSimpArgs false
/-- a sector's bytes as a value -/
def blkC (l : List UInt8) : Array Value := (l.map bv).toArray
abbrev blkV (l : List UInt8) : Value := .agg (blkC l)
theorem blkC_size (l : List UInt8) : (blkC l).size = l.length := by simp [blkC]
theorem blkC_list (l : List UInt8) : (blkC l).toList = l.map bv := by simp [blkC]
def zeros : List UInt8 := List.replicate 512 0
theorem zeros_len : zeros.length = 512 := List.length_replicate
theorem bv_inj {a b : UInt8} (h : bv a = bv b) : a = b := by
  unfold bv at h
  have h1 : (a.toNat : Int) = (b.toNat : Int) := by injection h
  exact UInt8.toNat_inj.1 (by omega)
theorem blkV_inj {l m : List UInt8} (h : blkV l = blkV m) : l = m := by
  have h1 : (l.map bv).toArray = (m.map bv).toArray := by injection h
  have h2 : l.map bv = m.map bv := by simpa using h1
  exact List.map_inj_right (fun _ _ => bv_inj) |>.1 h2
/-- how an element of a disk's map reads -/
noncomputable def rdBlk (v : Value) : Option (DataW Unit × List MemPlace) :=
  open Classical in if h : ∃ l : List UInt8, l.length = 512 ∧ v = blkV l then some (.lit (.string h.choose), []) else none
theorem rdBlk_mk {l : List UInt8} (h : l.length = 512) : rdBlk (blkV l) = some (.lit (.string l), []) := by
  have hx : ∃ m : List UInt8, m.length = 512 ∧ blkV l = blkV m := ⟨l, h, rfl⟩
  unfold rdBlk
  rw [dif_pos hx]
  rw [← blkV_inj hx.choose_spec.2]
theorem rdBlk_inv {v : Value} {z : DataW Unit × List MemPlace} (h : rdBlk v = some z) : ∃ l : List UInt8, l.length = 512 ∧ v = blkV l ∧ z = (.lit (.string l), []) := by
  unfold rdBlk at h
  by_cases hx : ∃ m : List UInt8, m.length = 512 ∧ v = blkV m
  · rw [dif_pos hx] at h
    exact ⟨hx.choose, hx.choose_spec.1, hx.choose_spec.2, (Option.some.inj h).symm⟩
  · rw [dif_neg hx] at h; cases h
theorem blk_one (l : List UInt8) : (blkC l).all (·.oneCell') = true := by
  rw [Array.all_eq_true]
  intro i hi
  simp [blkC, bv, Value.oneCell']
/-! ### equality of two blocks -/
theorem blk_size : (Try.prog.info? 84).map (·.size) = some 512 := by kernel_rfl
theorem byte_size : (Try.prog.info? 5).map (·.size) = some 1 := by kernel_rfl
theorem byte_info : ∃ i, Try.prog.info? 5 = some i ∧ i.size = 1 := by
  have h := byte_size
  cases hi : Try.prog.info? 5 with
  | none => rw [hi] at h; cases h
  | some i => rw [hi] at h; exact ⟨i, rfl, by simpa using h⟩
theorem byte_cells : Try.prog.cellsOf 5 = 1 := by kernel_rfl
theorem byte_plain : Try.prog.plainKey 5 = true := by kernel_rfl
theorem blk_at {l : List UInt8} {i : Nat} (h : i < l.length) : (l.map bv).toArray[i]? = some (.int .u8 ((l[i]'h).toNat : Int)) := by
  simp [bv, h]
theorem eq_items (d : Nat) {l m : List UInt8} (hl : l.length = 512) (hm : m.length = 512) (w : World) : ∀ is : List Nat, (∀ i ∈ is, i < 512) →
    (Op.eqItems (d + 1) 5 (Try.prog.cellsOf 5) (l.map bv).toArray (m.map bv).toArray is).run Try.prog w = .ok (is.all fun i => l[i]? == m[i]?) w
  | [], _ => by simp [Op.eqItems]
  | i :: is, h => by
    have h1 : i < 512 := h i (by simp)
    have ih := eq_items d hl hm w is (fun j hj => h j (by simp [hj]))
    have e1 := run_part_plain (P := Try.prog) w byte_plain (e := 5) (off := i * Try.prog.cellsOf 5) (by rw [byte_cells, Nat.mul_one]; exact blk_at (l := l) (by omega))
    have e2 := run_part_plain (P := Try.prog) w byte_plain (e := 5) (off := i * Try.prog.cellsOf 5) (by rw [byte_cells, Nat.mul_one]; exact blk_at (l := m) (by omega))
    have e3 := run_equalIn_int (P := Try.prog) w d 5 .u8 .u8 ((l[i]'(by omega)).toNat : Int) ((m[i]'(by omega)).toNat : Int) Try.underlying5
    simp only [Op.eqItems, Sem.run_bind, e1, e2, e3, Result.andThen_ok, List.all_cons]
    have hb : (((l[i]'(by omega)).toNat : Int) == ((m[i]'(by omega)).toNat : Int)) = (l[i]? == m[i]?) := by
      rw [List.getElem?_eq_getElem (by omega : i < l.length), List.getElem?_eq_getElem (by omega : i < m.length)]
      rw [Bool.eq_iff_iff]
      simp only [beq_iff_eq, Option.some.injEq]
      constructor
      · intro e; exact UInt8.toNat_inj.1 (by omega)
      · intro e; rw [e]
    rw [hb]
    cases (l[i]? == m[i]?)
    · simp
    · simpa using ih
theorem all_range {l m : List UInt8} (hl : l.length = 512) (hm : m.length = 512) : ((List.range 512).all fun i => l[i]? == m[i]?) = (l == m) := by
  rw [Bool.eq_iff_iff, List.all_eq_true]
  simp only [List.mem_range, beq_iff_eq]
  constructor
  · intro h
    apply List.ext_getElem?
    intro i
    by_cases hi : i < 512
    · exact h i hi
    · rw [List.getElem?_eq_none (by omega), List.getElem?_eq_none (by omega)]
  · intro h i _; rw [h]
theorem run_eq_blk {l m : List UInt8} (hl : l.length = 512) (hm : m.length = 512) (w : World) :
    (Op.equalIn 10000 84 (blkV l) (blkV m)).run Try.prog w = .ok (l == m) w := by
  obtain ⟨i, hi, _⟩ := byte_info
  have h1 := run_equalIn_array (P := Try.prog) w 9999 (l.map bv).toArray (m.map bv).toArray Try.underlying84 hi
  have h2 := eq_items 9998 hl hm w (List.range 512) (fun i hi => List.mem_range.1 hi)
  unfold blkV blkC
  rw [h1, h2, all_range hl hm]
theorem blk_zero : (Try.prog.info? 84).map (·.zero) = some (some (blkV zeros)) := by kernel_rfl
theorem run_zero_blk (w : World) : (zeroValue 84).run Try.prog w = .ok (blkV zeros) w := by
  have h := blk_zero
  cases hi : Try.prog.info? 84 with
  | none => rw [hi] at h; cases h
  | some i =>
    rw [hi] at h
    have hz : i.zero = some (blkV zeros) := by simpa using h
    unfold zeroValue
    simp [Sem.run_bind, run_typeInfo, hi, hz]
end Go.Proofs.Ytlhfhhbafhnbkaa
