/-
  ARGUMENTS [][]byte, []bool, [][]int: what their cells hold.
-/
import Derived.Test.YtlhfhhbafhnbkaaSecDI
import Derived.Deep.Slices
import Derived.ChangeArms
import Derived.ChangeSlices
import Derived.WideShapes
namespace Go.Proofs.Ytlhfhhbafhnbkaa
open Go.ChangeShapes Go.WideShapes Go.RowKit
set_option linter.unusedSimpArgs false
structure RowB where
  a : Option Addr
  n : Nat
  c : Nat
  l : List UInt8
instance : Inhabited RowB := ⟨⟨none, 0, 0, []⟩⟩
structure RowOk (w : World) (B : Nat) (x : RowB) : Prop where
  len : x.l.length = x.n
  max : x.n ≤ maxLen
  rb : RB w B x.a x.l
  cap : x.n ≤ x.c
def RowsB (w : World) (B : Nat) (A : Option Addr) (n : Nat) (l : List RowB) : Prop :=
  l.length = n ∧ (∀ x ∈ l, RowOk w B x) ∧ (0 < n → ∃ ad, A = some ad ∧ ad.block < B ∧ ∀ (j : Nat) (h : j < l.length), w.cell? (ad.add j) = some (.slice l[j].a l[j].n l[j].c))
structure RowI where
  a : Option Addr
  n : Nat
  c : Nat
  ks : List Int
instance : Inhabited RowI := ⟨⟨none, 0, 0, []⟩⟩
structure RowIOk (w : World) (B : Nat) (x : RowI) : Prop where
  len : x.ks.length = x.n
  row : IB w B x.a x.ks
  nil : x.a = none → x.n = 0 ∧ x.c = 0
  rng : ∀ k ∈ x.ks, -9223372036854775808 ≤ k ∧ k ≤ 9223372036854775807
def RowsI (w : World) (B : Nat) (A : Option Addr) (n : Nat) (l : List RowI) : Prop :=
  l.length = n ∧ (∀ x ∈ l, RowIOk w B x) ∧ (0 < n → ∃ ad, A = some ad ∧ ad.block < B ∧ ∀ (j : Nat) (h : j < l.length), w.cell? (ad.add j) = some (.slice l[j].a l[j].n l[j].c))
def Bools (w : World) (B : Nat) (A : Option Addr) (n : Nat) (l : List Bool) : Prop :=
  l.length = n ∧ (0 < n → ∃ ad, A = some ad ∧ ad.block < B ∧ ∀ (j : Nat) (h : j < l.length), w.cell? (ad.add j) = some (.bool l[j]))
section
variable {w w' : World} {B n : Nat} {A : Option Addr}
theorem RBkeep {l : List UInt8} {A : Option Addr} (h : RB w B A l) (hk : ∀ i, i < B → w'.heap[i]? = w.heap[i]?) : RB w' B A l := Reads.keep h (fun _ hp => cell_of_heap (hk _ hp))
theorem IBkeep {l : List Int} {A : Option Addr} (h : IB w B A l) (hk : ∀ i, i < B → w'.heap[i]? = w.heap[i]?) : IB w' B A l := Reads.keep h (fun _ hp => cell_of_heap (hk _ hp))
theorem RowsB.no {l : List RowB} (h : RowsB w B A n l) (hc : Chg NoB w w') (hB : B ≤ w.heap.size) : RowsB w' B A n l := by
  have hk : ∀ i, i < B → w'.heap[i]? = w.heap[i]? := fun i hi => hc.block i (by omega) (fun h => h)
  refine ⟨h.1, fun x hx => { h.2.1 x hx with rb := RBkeep (h.2.1 x hx).rb hk }, fun hn => ?_⟩
  obtain ⟨ad, e, hb, hx⟩ := h.2.2 hn
  exact ⟨ad, e, hb, fun j hj => (cell_of_heap (by rw [block_of_add]; exact hk _ hb)).trans (hx j hj)⟩
theorem RowsI.no {l : List RowI} (h : RowsI w B A n l) (hc : Chg NoB w w') (hB : B ≤ w.heap.size) : RowsI w' B A n l := by
  have hk : ∀ i, i < B → w'.heap[i]? = w.heap[i]? := fun i hi => hc.block i (by omega) (fun h => h)
  refine ⟨h.1, fun x hx => { h.2.1 x hx with row := IBkeep (h.2.1 x hx).row hk }, fun hn => ?_⟩
  obtain ⟨ad, e, hb, hx⟩ := h.2.2 hn
  exact ⟨ad, e, hb, fun j hj => (cell_of_heap (by rw [block_of_add]; exact hk _ hb)).trans (hx j hj)⟩
theorem Bools.no {l : List Bool} (h : Bools w B A n l) (hc : Chg NoB w w') (hB : B ≤ w.heap.size) : Bools w' B A n l := by
  have hk : ∀ i, i < B → w'.heap[i]? = w.heap[i]? := fun i hi => hc.block i (by omega) (fun h => h)
  refine ⟨h.1, fun hn => ?_⟩
  obtain ⟨ad, e, hb, hx⟩ := h.2 hn
  exact ⟨ad, e, hb, fun j hj => (cell_of_heap (by rw [block_of_add]; exact hk _ hb)).trans (hx j hj)⟩
theorem RowsB.at_ {l : List RowB} (h : RowsB w B A n l) {j : Nat} (hj : j < n) : ∃ ad x, A = some ad ∧ ad.block < B ∧ l[j]? = some x ∧ w.cell? (ad.add j) = some (.slice x.a x.n x.c) ∧ RowOk w B x := by
  obtain ⟨ad, e, hb, hc⟩ := h.2.2 (by omega)
  have hl : j < l.length := by rw [h.1]; exact hj
  exact ⟨ad, l[j], e, hb, List.getElem?_eq_getElem hl, hc j hl, h.2.1 _ (List.getElem_mem hl)⟩
theorem RowsI.at_ {l : List RowI} (h : RowsI w B A n l) {j : Nat} (hj : j < n) : ∃ ad x, A = some ad ∧ ad.block < B ∧ l[j]? = some x ∧ w.cell? (ad.add j) = some (.slice x.a x.n x.c) ∧ RowIOk w B x := by
  obtain ⟨ad, e, hb, hc⟩ := h.2.2 (by omega)
  have hl : j < l.length := by rw [h.1]; exact hj
  exact ⟨ad, l[j], e, hb, List.getElem?_eq_getElem hl, hc j hl, h.2.1 _ (List.getElem_mem hl)⟩
theorem Bools.at_ {l : List Bool} (h : Bools w B A n l) {j : Nat} (hj : j < n) : ∃ ad b, A = some ad ∧ ad.block < B ∧ l[j]? = some b ∧ w.cell? (ad.add j) = some (.bool b) := by
  obtain ⟨ad, e, hb, hc⟩ := h.2 (by omega)
  have hl : j < l.length := by rw [h.1]; exact hj
  exact ⟨ad, l[j], e, hb, List.getElem?_eq_getElem hl, hc j hl⟩
end
theorem bytes_cell : Try.prog.cellsOf 25 = 1 := by kernel_rfl
theorem ints_cell : Try.prog.cellsOf 63 = 1 := by kernel_rfl
theorem int_cell : Try.prog.cellsOf 3 = 1 := by kernel_rfl
theorem bool_cell : Try.prog.cellsOf 4 = 1 := by kernel_rfl
section
variable {H : Type} {enc : TypeId × Value → H} {w : World} {base : Nat} {held : Bool}
theorem open_rowb {fuel : Nat} {v : Value} {x : DataW H × List MemPlace} (h : DataW.trod enc Try.prog w base (fun _ => true) held fuel 25 [v] = some x) : ∃ y : RowB, v = .slice y.a y.n y.c ∧ RowOk w w.heap.size y := by
  rcases open_ints Try.underlying25 Try.underlying5 byte_cells h with ⟨e, _⟩ | ⟨a, len, cap, zs, e, _, hl, hm, hz, _, hcell, hwz⟩
  · injection e with e
    exact ⟨⟨none, 0, 0, []⟩, e, rfl, Nat.zero_le _, RB.none_, Nat.zero_le _⟩
  · injection e with e
    have hrow : IsRow .u8 w (some a) len cap zs := .inr ⟨a, rfl, hl, hm, by simpa using hz, hcell, hwz⟩
    obtain ⟨l, h1, h2, h3, h4⟩ := hrow.rb
    exact ⟨⟨some a, len, cap, l⟩, e, h1.symm, by rw [h1]; exact h2, h3, hl⟩
theorem open_rowi {fuel : Nat} {v : Value} {x : DataW H × List MemPlace} (h : DataW.trod enc Try.prog w base (fun _ => true) held fuel 63 [v] = some x) : ∃ y : RowI, v = .slice y.a y.n y.c ∧ RowIOk w w.heap.size y := by
  rcases open_ints Try.underlying63 Try.underlying3 int_cell h with ⟨e, _⟩ | ⟨a, len, cap, zs, e, _, hl, hm, hz, _, hcell, hwz⟩
  · injection e with e
    exact ⟨⟨none, 0, 0, []⟩, e, rfl, IB.none_, fun _ => ⟨rfl, rfl⟩, fun k hk => (by cases hk)⟩
  · injection e with e
    have hz' : zs.length = cap := by simpa using hz
    refine ⟨⟨some a, len, cap, zs.take len⟩, e, by simp; omega, ⟨by simp, fun hp => ⟨a, rfl, ?_, fun j u hu => ?_⟩⟩, fun h => (by cases h), fun k hk => ?_⟩
    · have := block_lt_of_cell (hcell 0 (by simp at hp; omega))
      rwa [block_of_add] at this
    · have hj : j < len := by
        rcases Nat.lt_or_ge j len with h | h
        · exact h
        · rw [List.getElem?_eq_none (by simp; omega)] at hu; cases hu
      have hjz : j < zs.length := by omega
      rw [hcell j hjz, ← hu]
      simp [List.getElem?_take, hj, List.getElem?_eq_getElem hjz]
    · have h1 := hwz k (List.mem_of_mem_take hk)
      simp [Lit.wf, IntKind.min, IntKind.max, IntKind.bits, IntKind.signed] at h1
      exact ⟨by omega, by omega⟩
theorem open_bss {v : Option Addr} {len cap : Nat} {d : DataW H} {p : List MemPlace} (h : DataW.Trod enc Try.prog w base (fun _ => true) held 56 (.slice v len cap) d p) : ∃ l, RowsB w w.heap.size v len l := by
  obtain ⟨fuel, hf⟩ := h
  rcases Deep.open_slice1 Try.underlying56 bytes_cell hf with ⟨hcs, _⟩ | ⟨a, l, c, m, n, V, D, Pl, hcs, _, hl, hm, hmm, _, hx⟩
  · simp [Value.cells] at hcs
    obtain ⟨rfl, rfl, rfl⟩ := hcs
    exact ⟨[], rfl, fun x hx => (by cases hx), fun h => absurd h (by omega)⟩
  · simp [Value.cells] at hcs
    obtain ⟨rfl, rfl, rfl⟩ := hcs
    have hmc : len ≤ m := by simp at hmm; omega
    have each : ∀ i, i < len → ∃ y : RowB, w.cell? (a.add i) = some (.slice y.a y.n y.c) ∧ RowOk w w.heap.size y := by
      intro i hi
      obtain ⟨h1, h2⟩ := hx i (by omega)
      obtain ⟨y, hy, ho⟩ := open_rowb h2
      exact ⟨y, by rw [h1, hy], ho⟩
    obtain ⟨Y, hY⟩ := Deep.choose_lt (α := RowB) (p := fun i y => w.cell? (a.add i) = some (.slice y.a y.n y.c) ∧ RowOk w w.heap.size y) each
    refine ⟨(List.range len).map Y, by simp, fun x hx => ?_, fun h0 => ⟨a, rfl, ?_, fun j hj => ?_⟩⟩
    · obtain ⟨i, hi, rfl⟩ := List.mem_map.1 hx
      exact (hY i (List.mem_range.1 hi)).2
    · have := block_lt_of_cell (hY 0 h0).1
      rwa [block_of_add] at this
    · simp at hj ⊢
      exact (hY j hj).1
theorem open_iss {v : Option Addr} {len cap : Nat} {d : DataW H} {p : List MemPlace} (h : DataW.Trod enc Try.prog w base (fun _ => true) held 61 (.slice v len cap) d p) : ∃ l, RowsI w w.heap.size v len l := by
  obtain ⟨fuel, hf⟩ := h
  rcases Deep.open_slice1 Try.underlying61 ints_cell hf with ⟨hcs, _⟩ | ⟨a, l, c, m, n, V, D, Pl, hcs, _, hl, hm, hmm, _, hx⟩
  · simp [Value.cells] at hcs
    obtain ⟨rfl, rfl, rfl⟩ := hcs
    exact ⟨[], rfl, fun x hx => (by cases hx), fun h => absurd h (by omega)⟩
  · simp [Value.cells] at hcs
    obtain ⟨rfl, rfl, rfl⟩ := hcs
    have hmc : len ≤ m := by simp at hmm; omega
    have each : ∀ i, i < len → ∃ y : RowI, w.cell? (a.add i) = some (.slice y.a y.n y.c) ∧ RowIOk w w.heap.size y := by
      intro i hi
      obtain ⟨h1, h2⟩ := hx i (by omega)
      obtain ⟨y, hy, ho⟩ := open_rowi h2
      exact ⟨y, by rw [h1, hy], ho⟩
    obtain ⟨Y, hY⟩ := Deep.choose_lt (α := RowI) (p := fun i y => w.cell? (a.add i) = some (.slice y.a y.n y.c) ∧ RowIOk w w.heap.size y) each
    refine ⟨(List.range len).map Y, by simp, fun x hx => ?_, fun h0 => ⟨a, rfl, ?_, fun j hj => ?_⟩⟩
    · obtain ⟨i, hi, rfl⟩ := List.mem_map.1 hx
      exact (hY i (List.mem_range.1 hi)).2
    · have := block_lt_of_cell (hY 0 h0).1
      rwa [block_of_add] at this
    · simp at hj ⊢
      exact (hY j hj).1
theorem open_bools {v : Option Addr} {len cap : Nat} {d : DataW H} {p : List MemPlace} (h : DataW.Trod enc Try.prog w base (fun _ => true) held 57 (.slice v len cap) d p) : ∃ l, Bools w w.heap.size v len l := by
  obtain ⟨fuel, hf⟩ := h
  rcases Deep.open_slice1 Try.underlying57 bool_cell hf with ⟨hcs, _⟩ | ⟨a, l, c, m, n, V, D, Pl, hcs, _, hl, hm, hmm, _, hx⟩
  · simp [Value.cells] at hcs
    obtain ⟨rfl, rfl, rfl⟩ := hcs
    exact ⟨[], rfl, fun h => absurd h (by omega)⟩
  · simp [Value.cells] at hcs
    obtain ⟨rfl, rfl, rfl⟩ := hcs
    have hmc : len ≤ m := by simp at hmm; omega
    have each : ∀ i, i < len → ∃ y : Bool, w.cell? (a.add i) = some (.bool y) := by
      intro i hi
      obtain ⟨h1, h2⟩ := hx i (by omega)
      obtain ⟨b, hb, _⟩ := DataW.trod_bool Try.underlying4 h2
      injection hb with hb
      exact ⟨b, by rw [h1, hb]⟩
    obtain ⟨Y, hY⟩ := Deep.choose_lt (α := Bool) (p := fun i y => w.cell? (a.add i) = some (.bool y)) each
    refine ⟨(List.range len).map Y, by simp, fun h0 => ⟨a, rfl, ?_, fun j hj => ?_⟩⟩
    · have := block_lt_of_cell (hY 0 h0)
      rwa [block_of_add] at this
    · simp at hj ⊢
      exact hY j hj
end
end Go.Proofs.Ytlhfhhbafhnbkaa
