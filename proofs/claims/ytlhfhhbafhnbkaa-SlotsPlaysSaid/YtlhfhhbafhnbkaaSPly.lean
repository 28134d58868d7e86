/-
  SLOTS, the texts ahead of SlotsPlays, in one: the argument []Act, the reference's Format and Commit, write, alike, few, many, both disks side by side.
-/
import Derived.Test.YtlhfhhbafhnbkaaSecDI
import Derived.Deep.Slices
import Derived.ChangeArms
import Derived.ChangeSlices
import Derived.WideShapes
import Derived.Test.YtlhfhhbafhnbkaaSRef9
import Derived.Test.YtlhfhhbafhnbkaaSRefC
import Derived.Test.YtlhfhhbafhnbkaaSlt8
import Derived.Deep.Cut
import Derived.Deep.CutRange
import Derived.Test.YtlhfhhbafhnbkaaSltM
import Derived.Test.YtlhfhhbafhnbkaaSlt10
import Derived.Test.YtlhfhhbafhnbkaaSRefA
import Derived.Test.YtlhfhhbafhnbkaaRegionInv
import Derived.StillTailTactics
import Derived.IntWalk
import Derived.Laws.AppendOwn
import Derived.OwnWalk
namespace Go.Proofs.Ytlhfhhbafhnbkaa
open Go.ChangeShapes Go.WideShapes Go.RowKit
set_option linter.unusedSimpArgs false
structure RowB where
  a : Option Addr
  n : Nat
  c : Nat
  l : List UInt8
instance : Inhabited RowB := ⟨⟨none, 0, 0, []⟩⟩
structure RowOk (w : World) (B : Nat) (x : RowB) : Prop where
  len : x.l.length = x.n
  max : x.n ≤ maxLen
  rb : RB w B x.a x.l
  cap : x.n ≤ x.c
def RowsB (w : World) (B : Nat) (A : Option Addr) (n : Nat) (l : List RowB) : Prop :=
  l.length = n ∧ (∀ x ∈ l, RowOk w B x) ∧ (0 < n → ∃ ad, A = some ad ∧ ad.block < B ∧ ∀ (j : Nat) (h : j < l.length), w.cell? (ad.add j) = some (.slice l[j].a l[j].n l[j].c))
structure RowI where
  a : Option Addr
  n : Nat
  c : Nat
  ks : List Int
instance : Inhabited RowI := ⟨⟨none, 0, 0, []⟩⟩
structure RowIOk (w : World) (B : Nat) (x : RowI) : Prop where
  len : x.ks.length = x.n
  row : IB w B x.a x.ks
  nil : x.a = none → x.n = 0 ∧ x.c = 0
  rng : ∀ k ∈ x.ks, -9223372036854775808 ≤ k ∧ k ≤ 9223372036854775807
def RowsI (w : World) (B : Nat) (A : Option Addr) (n : Nat) (l : List RowI) : Prop :=
  l.length = n ∧ (∀ x ∈ l, RowIOk w B x) ∧ (0 < n → ∃ ad, A = some ad ∧ ad.block < B ∧ ∀ (j : Nat) (h : j < l.length), w.cell? (ad.add j) = some (.slice l[j].a l[j].n l[j].c))
def Bools (w : World) (B : Nat) (A : Option Addr) (n : Nat) (l : List Bool) : Prop :=
  l.length = n ∧ (0 < n → ∃ ad, A = some ad ∧ ad.block < B ∧ ∀ (j : Nat) (h : j < l.length), w.cell? (ad.add j) = some (.bool l[j]))
section
variable {w w' : World} {B n : Nat} {A : Option Addr}
theorem RBkeep {l : List UInt8} {A : Option Addr} (h : RB w B A l) (hk : ∀ i, i < B → w'.heap[i]? = w.heap[i]?) : RB w' B A l := Reads.keep h (fun _ hp => cell_of_heap (hk _ hp))
theorem IBkeep {l : List Int} {A : Option Addr} (h : IB w B A l) (hk : ∀ i, i < B → w'.heap[i]? = w.heap[i]?) : IB w' B A l := Reads.keep h (fun _ hp => cell_of_heap (hk _ hp))
theorem RowsB.no {l : List RowB} (h : RowsB w B A n l) (hc : Chg NoB w w') (hB : B ≤ w.heap.size) : RowsB w' B A n l := by
  have hk : ∀ i, i < B → w'.heap[i]? = w.heap[i]? := fun i hi => hc.block i (by omega) (fun h => h)
  refine ⟨h.1, fun x hx => { h.2.1 x hx with rb := RBkeep (h.2.1 x hx).rb hk }, fun hn => ?_⟩
  obtain ⟨ad, e, hb, hx⟩ := h.2.2 hn
  exact ⟨ad, e, hb, fun j hj => (cell_of_heap (by rw [block_of_add]; exact hk _ hb)).trans (hx j hj)⟩
theorem RowsI.no {l : List RowI} (h : RowsI w B A n l) (hc : Chg NoB w w') (hB : B ≤ w.heap.size) : RowsI w' B A n l := by
  have hk : ∀ i, i < B → w'.heap[i]? = w.heap[i]? := fun i hi => hc.block i (by omega) (fun h => h)
  refine ⟨h.1, fun x hx => { h.2.1 x hx with row := IBkeep (h.2.1 x hx).row hk }, fun hn => ?_⟩
  obtain ⟨ad, e, hb, hx⟩ := h.2.2 hn
  exact ⟨ad, e, hb, fun j hj => (cell_of_heap (by rw [block_of_add]; exact hk _ hb)).trans (hx j hj)⟩
theorem Bools.no {l : List Bool} (h : Bools w B A n l) (hc : Chg NoB w w') (hB : B ≤ w.heap.size) : Bools w' B A n l := by
  have hk : ∀ i, i < B → w'.heap[i]? = w.heap[i]? := fun i hi => hc.block i (by omega) (fun h => h)
  refine ⟨h.1, fun hn => ?_⟩
  obtain ⟨ad, e, hb, hx⟩ := h.2 hn
  exact ⟨ad, e, hb, fun j hj => (cell_of_heap (by rw [block_of_add]; exact hk _ hb)).trans (hx j hj)⟩
theorem RowsB.at_ {l : List RowB} (h : RowsB w B A n l) {j : Nat} (hj : j < n) : ∃ ad x, A = some ad ∧ ad.block < B ∧ l[j]? = some x ∧ w.cell? (ad.add j) = some (.slice x.a x.n x.c) ∧ RowOk w B x := by
  obtain ⟨ad, e, hb, hc⟩ := h.2.2 (by omega)
  have hl : j < l.length := by rw [h.1]; exact hj
  exact ⟨ad, l[j], e, hb, List.getElem?_eq_getElem hl, hc j hl, h.2.1 _ (List.getElem_mem hl)⟩
theorem RowsI.at_ {l : List RowI} (h : RowsI w B A n l) {j : Nat} (hj : j < n) : ∃ ad x, A = some ad ∧ ad.block < B ∧ l[j]? = some x ∧ w.cell? (ad.add j) = some (.slice x.a x.n x.c) ∧ RowIOk w B x := by
  obtain ⟨ad, e, hb, hc⟩ := h.2.2 (by omega)
  have hl : j < l.length := by rw [h.1]; exact hj
  exact ⟨ad, l[j], e, hb, List.getElem?_eq_getElem hl, hc j hl, h.2.1 _ (List.getElem_mem hl)⟩
theorem Bools.at_ {l : List Bool} (h : Bools w B A n l) {j : Nat} (hj : j < n) : ∃ ad b, A = some ad ∧ ad.block < B ∧ l[j]? = some b ∧ w.cell? (ad.add j) = some (.bool b) := by
  obtain ⟨ad, e, hb, hc⟩ := h.2 (by omega)
  have hl : j < l.length := by rw [h.1]; exact hj
  exact ⟨ad, l[j], e, hb, List.getElem?_eq_getElem hl, hc j hl⟩
end
theorem bytes_cell : Try.prog.cellsOf 25 = 1 := by kernel_rfl
theorem ints_cell : Try.prog.cellsOf 63 = 1 := by kernel_rfl
theorem int_cell : Try.prog.cellsOf 3 = 1 := by kernel_rfl
theorem bool_cell : Try.prog.cellsOf 4 = 1 := by kernel_rfl
section
variable {H : Type} {enc : TypeId × Value → H} {w : World} {base : Nat} {held : Bool}
theorem open_rowb {fuel : Nat} {v : Value} {x : DataW H × List MemPlace} (h : DataW.trod enc Try.prog w base (fun _ => true) held fuel 25 [v] = some x) : ∃ y : RowB, v = .slice y.a y.n y.c ∧ RowOk w w.heap.size y := by
  rcases open_ints Try.underlying25 Try.underlying5 byte_cells h with ⟨e, _⟩ | ⟨a, len, cap, zs, e, _, hl, hm, hz, _, hcell, hwz⟩
  · injection e with e
    exact ⟨⟨none, 0, 0, []⟩, e, rfl, Nat.zero_le _, RB.none_, Nat.zero_le _⟩
  · injection e with e
    have hrow : IsRow .u8 w (some a) len cap zs := .inr ⟨a, rfl, hl, hm, by simpa using hz, hcell, hwz⟩
    obtain ⟨l, h1, h2, h3, h4⟩ := hrow.rb
    exact ⟨⟨some a, len, cap, l⟩, e, h1.symm, by rw [h1]; exact h2, h3, hl⟩
theorem open_rowi {fuel : Nat} {v : Value} {x : DataW H × List MemPlace} (h : DataW.trod enc Try.prog w base (fun _ => true) held fuel 63 [v] = some x) : ∃ y : RowI, v = .slice y.a y.n y.c ∧ RowIOk w w.heap.size y := by
  rcases open_ints Try.underlying63 Try.underlying3 int_cell h with ⟨e, _⟩ | ⟨a, len, cap, zs, e, _, hl, hm, hz, _, hcell, hwz⟩
  · injection e with e
    exact ⟨⟨none, 0, 0, []⟩, e, rfl, IB.none_, fun _ => ⟨rfl, rfl⟩, fun k hk => (by cases hk)⟩
  · injection e with e
    have hz' : zs.length = cap := by simpa using hz
    refine ⟨⟨some a, len, cap, zs.take len⟩, e, by simp; omega, ⟨by simp, fun hp => ⟨a, rfl, ?_, fun j u hu => ?_⟩⟩, fun h => (by cases h), fun k hk => ?_⟩
    · have := block_lt_of_cell (hcell 0 (by simp at hp; omega))
      rwa [block_of_add] at this
    · have hj : j < len := by
        rcases Nat.lt_or_ge j len with h | h
        · exact h
        · rw [List.getElem?_eq_none (by simp; omega)] at hu; cases hu
      have hjz : j < zs.length := by omega
      rw [hcell j hjz, ← hu]
      simp [List.getElem?_take, hj, List.getElem?_eq_getElem hjz]
    · have h1 := hwz k (List.mem_of_mem_take hk)
      simp [Lit.wf, IntKind.min, IntKind.max, IntKind.bits, IntKind.signed] at h1
      exact ⟨by omega, by omega⟩
theorem open_bss {v : Option Addr} {len cap : Nat} {d : DataW H} {p : List MemPlace} (h : DataW.Trod enc Try.prog w base (fun _ => true) held 56 (.slice v len cap) d p) : ∃ l, RowsB w w.heap.size v len l := by
  obtain ⟨fuel, hf⟩ := h
  rcases Deep.open_slice1 Try.underlying56 bytes_cell hf with ⟨hcs, _⟩ | ⟨a, l, c, m, n, V, D, Pl, hcs, _, hl, hm, hmm, _, hx⟩
  · simp [Value.cells] at hcs
    obtain ⟨rfl, rfl, rfl⟩ := hcs
    exact ⟨[], rfl, fun x hx => (by cases hx), fun h => absurd h (by omega)⟩
  · simp [Value.cells] at hcs
    obtain ⟨rfl, rfl, rfl⟩ := hcs
    have hmc : len ≤ m := by simp at hmm; omega
    have each : ∀ i, i < len → ∃ y : RowB, w.cell? (a.add i) = some (.slice y.a y.n y.c) ∧ RowOk w w.heap.size y := by
      intro i hi
      obtain ⟨h1, h2⟩ := hx i (by omega)
      obtain ⟨y, hy, ho⟩ := open_rowb h2
      exact ⟨y, by rw [h1, hy], ho⟩
    obtain ⟨Y, hY⟩ := Deep.choose_lt (α := RowB) (p := fun i y => w.cell? (a.add i) = some (.slice y.a y.n y.c) ∧ RowOk w w.heap.size y) each
    refine ⟨(List.range len).map Y, by simp, fun x hx => ?_, fun h0 => ⟨a, rfl, ?_, fun j hj => ?_⟩⟩
    · obtain ⟨i, hi, rfl⟩ := List.mem_map.1 hx
      exact (hY i (List.mem_range.1 hi)).2
    · have := block_lt_of_cell (hY 0 h0).1
      rwa [block_of_add] at this
    · simp at hj ⊢
      exact (hY j hj).1
theorem open_iss {v : Option Addr} {len cap : Nat} {d : DataW H} {p : List MemPlace} (h : DataW.Trod enc Try.prog w base (fun _ => true) held 61 (.slice v len cap) d p) : ∃ l, RowsI w w.heap.size v len l := by
  obtain ⟨fuel, hf⟩ := h
  rcases Deep.open_slice1 Try.underlying61 ints_cell hf with ⟨hcs, _⟩ | ⟨a, l, c, m, n, V, D, Pl, hcs, _, hl, hm, hmm, _, hx⟩
  · simp [Value.cells] at hcs
    obtain ⟨rfl, rfl, rfl⟩ := hcs
    exact ⟨[], rfl, fun x hx => (by cases hx), fun h => absurd h (by omega)⟩
  · simp [Value.cells] at hcs
    obtain ⟨rfl, rfl, rfl⟩ := hcs
    have hmc : len ≤ m := by simp at hmm; omega
    have each : ∀ i, i < len → ∃ y : RowI, w.cell? (a.add i) = some (.slice y.a y.n y.c) ∧ RowIOk w w.heap.size y := by
      intro i hi
      obtain ⟨h1, h2⟩ := hx i (by omega)
      obtain ⟨y, hy, ho⟩ := open_rowi h2
      exact ⟨y, by rw [h1, hy], ho⟩
    obtain ⟨Y, hY⟩ := Deep.choose_lt (α := RowI) (p := fun i y => w.cell? (a.add i) = some (.slice y.a y.n y.c) ∧ RowIOk w w.heap.size y) each
    refine ⟨(List.range len).map Y, by simp, fun x hx => ?_, fun h0 => ⟨a, rfl, ?_, fun j hj => ?_⟩⟩
    · obtain ⟨i, hi, rfl⟩ := List.mem_map.1 hx
      exact (hY i (List.mem_range.1 hi)).2
    · have := block_lt_of_cell (hY 0 h0).1
      rwa [block_of_add] at this
    · simp at hj ⊢
      exact (hY j hj).1
theorem open_bools {v : Option Addr} {len cap : Nat} {d : DataW H} {p : List MemPlace} (h : DataW.Trod enc Try.prog w base (fun _ => true) held 57 (.slice v len cap) d p) : ∃ l, Bools w w.heap.size v len l := by
  obtain ⟨fuel, hf⟩ := h
  rcases Deep.open_slice1 Try.underlying57 bool_cell hf with ⟨hcs, _⟩ | ⟨a, l, c, m, n, V, D, Pl, hcs, _, hl, hm, hmm, _, hx⟩
  · simp [Value.cells] at hcs
    obtain ⟨rfl, rfl, rfl⟩ := hcs
    exact ⟨[], rfl, fun h => absurd h (by omega)⟩
  · simp [Value.cells] at hcs
    obtain ⟨rfl, rfl, rfl⟩ := hcs
    have hmc : len ≤ m := by simp at hmm; omega
    have each : ∀ i, i < len → ∃ y : Bool, w.cell? (a.add i) = some (.bool y) := by
      intro i hi
      obtain ⟨h1, h2⟩ := hx i (by omega)
      obtain ⟨b, hb, _⟩ := DataW.trod_bool Try.underlying4 h2
      injection hb with hb
      exact ⟨b, by rw [h1, hb]⟩
    obtain ⟨Y, hY⟩ := Deep.choose_lt (α := Bool) (p := fun i y => w.cell? (a.add i) = some (.bool y)) each
    refine ⟨(List.range len).map Y, by simp, fun h0 => ⟨a, rfl, ?_, fun j hj => ?_⟩⟩
    · have := block_lt_of_cell (hY 0 h0)
      rwa [block_of_add] at this
    · simp at hj ⊢
      exact hY j hj
end
end Go.Proofs.Ytlhfhhbafhnbkaa
namespace Go.Proofs.Ytlhfhhbafhnbkaa
open Go.ChangeShapes Go.WideShapes Go.RowKit
set_option linter.unusedSimpArgs false
structure ActV where
  kind : Int
  ba : Option Addr
  bn : Nat
  bc : Nat
  bl : List UInt8
  i : Int
  long : Int
  c : UInt8
  ka : Option Addr
  kn : Nat
  kc : Nat
  ks : List Int
instance : Inhabited ActV := ⟨⟨0, none, 0, 0, [], 0, 0, 0, none, 0, 0, []⟩⟩
structure ActOk (w : World) (B : Nat) (x : ActV) : Prop where
  hk : I64r x.kind
  hi : I64r x.i
  hl : I64r x.long
  b : RowOk w B ⟨x.ba, x.bn, x.bc, x.bl⟩
  len : x.ks.length = x.kn
  row : IB w B x.ka x.ks
  nil : x.ka = none → x.kn = 0 ∧ x.kc = 0
  rng : ∀ k ∈ x.ks, I64r k
structure ActAt (w : World) (a : Addr) (x : ActV) : Prop where
  c0 : w.cell? a = some (.int .i64 x.kind)
  c1 : w.cell? ⟨a.block, a.off + 1, none⟩ = some (.slice x.ba x.bn x.bc)
  c2 : w.cell? ⟨a.block, a.off + 2, none⟩ = some (.int .i64 x.i)
  c3 : w.cell? ⟨a.block, a.off + 3, none⟩ = some (.int .i64 x.long)
  c4 : w.cell? ⟨a.block, a.off + 4, none⟩ = some (.int .u8 (x.c.toNat : Int))
  c5 : w.cell? ⟨a.block, a.off + 5, none⟩ = some (.slice x.ka x.kn x.kc)
def Acts (w : World) (B : Nat) (A : Option Addr) (n : Nat) (l : List ActV) : Prop :=
  l.length = n ∧ (∀ x ∈ l, ActOk w B x) ∧ (0 < n → ∃ ad, A = some ad ∧ ad.block < B ∧ ∀ (j : Nat) (h : j < l.length), ActAt w (ad.add (j * 6)) l[j])
theorem IB.keepB {w w' : World} {B : Nat} {A : Option Addr} {l : List Int} (h : IB w B A l) (hk : ∀ i, i < B → w'.heap[i]? = w.heap[i]?) : IB w' B A l :=
  ⟨h.1, fun hn => by
    obtain ⟨ad, e, hb, hx⟩ := h.2 hn
    exact ⟨ad, e, hb, fun j u hu => (cell_of_heap (by rw [block_of_add]; exact hk _ hb)).trans (hx j u hu)⟩⟩
theorem Acts.keep {w w' : World} {B : Nat} {A : Option Addr} {n : Nat} {l : List ActV} (h : Acts w B A n l) (hk : ∀ i, i < B → w'.heap[i]? = w.heap[i]?) : Acts w' B A n l := by
  refine ⟨h.1, fun x hx => ?_, fun hn => ?_⟩
  · have h1 := h.2.1 x hx
    exact { h1 with row := h1.row.keepB hk, b := { h1.b with rb := RBkeep h1.b.rb hk } }
  · obtain ⟨ad, e, hb, hc⟩ := h.2.2 hn
    refine ⟨ad, e, hb, fun j hj => ?_⟩
    have h1 := hc j hj
    have h0 : w'.cell? (ad.add (j * 6)) = w.cell? (ad.add (j * 6)) := cell_of_heap (by rw [block_of_add]; exact hk _ hb)
    have hq : ∀ q, w'.cell? ((ad.add (j * 6)).add q) = w.cell? ((ad.add (j * 6)).add q) := fun q => cell_of_heap (by rw [block_of_add, block_of_add]; exact hk _ hb)
    exact ⟨h0.trans h1.c0, (hq 1).trans h1.c1, (hq 2).trans h1.c2, (hq 3).trans h1.c3, (hq 4).trans h1.c4, (hq 5).trans h1.c5⟩
theorem Acts.chg {S : Nat → Prop} {w w' : World} {B : Nat} {A : Option Addr} {n : Nat} {l : List ActV} (h : Acts w B A n l) (hc : Chg S w w') (hB : B ≤ w.heap.size) (hS : ∀ i, i < B → ¬ S i) : Acts w' B A n l :=
  h.keep (fun i hi => hc.block i (by omega) (hS i hi))
theorem Acts.no {w w' : World} {B : Nat} {A : Option Addr} {n : Nat} {l : List ActV} (h : Acts w B A n l) (hc : Chg NoB w w') (hB : B ≤ w.heap.size) : Acts w' B A n l := h.chg hc hB (fun _ _ h => h)
/-- the j-th act -/
theorem Acts.at_ {w : World} {B : Nat} {A : Option Addr} {n : Nat} {l : List ActV} (h : Acts w B A n l) {j : Nat} (hj : j < n) : ∃ ad x, A = some ad ∧ ad.block < B ∧ l[j]? = some x ∧ ActAt w (ad.add (j * 6)) x ∧ ActOk w B x := by
  obtain ⟨ad, e, hb, hc⟩ := h.2.2 (by omega)
  have hl : j < l.length := by rw [h.1]; exact hj
  exact ⟨ad, l[j], e, hb, List.getElem?_eq_getElem hl, hc j hl, h.2.1 _ (List.getElem_mem hl)⟩
theorem act_wide : Try.prog.cellsOf 68 = 6 := by kernel_rfl
theorem six_of {α : Type} : ∀ (l : List α), l.length = 6 → ∃ a b c d e f, l = [a, b, c, d, e, f]
  | [a, b, c, d, e, f], _ => ⟨a, b, c, d, e, f, rfl⟩
theorem i64_of {n : Int} (h : (Lit.int .i64 n).wf = true) : I64r n := by
  simp [Lit.wf, IntKind.min, IntKind.max, IntKind.bits, IntKind.signed] at h; exact ⟨by omega, by omega⟩
section
variable {H : Type} {enc : TypeId × Value → H} {w : World} {base : Nat} {held : Bool}
theorem open_act {fuel : Nat} {cs : List Value} {x : DataW H × List MemPlace} (h : DataW.trod enc Try.prog w base (fun _ => true) held fuel 68 cs = some x) :
    ∃ y : ActV, cs = [.int .i64 y.kind, .slice y.ba y.bn y.bc, .int .i64 y.i, .int .i64 y.long, .int .u8 (y.c.toNat : Int), .slice y.ka y.kn y.kc] ∧ ActOk w w.heap.size y := by
  obtain ⟨xs, n, _, _, hsz, hlen, hg⟩ := DataW.trod_struct Try.underlying68 h
  rw [act_wide] at hsz
  obtain ⟨x0, x1, x2, x3, x4, x5, rfl⟩ := six_of xs hlen
  obtain ⟨c0, c1, c2, c3, c4, c5, rfl⟩ := six_of cs hsz
  have g0 := hg 0 _ rfl
  have g1 := hg 1 _ rfl
  have g2 := hg 2 _ rfl
  have g3 := hg 3 _ rfl
  have g4 := hg 4 _ rfl
  have g5 := hg 5 _ rfl
  obtain ⟨kd, e0, _, w0⟩ := DataW.trod_int Try.underlying3 g0
  obtain ⟨ii, e2, _, w2⟩ := DataW.trod_int Try.underlying3 g2
  obtain ⟨ll, e3, _, w3⟩ := DataW.trod_int Try.underlying3 g3
  obtain ⟨cc, e4, _, w4⟩ := DataW.trod_int Try.underlying5 g4
  simp [int_cell, byte_cells, bytes_cell] at e0 e2 e3 e4
  subst e0 e2 e3 e4
  simp [int_cell, byte_cells, bytes_cell, ints_cell] at g1 g5
  obtain ⟨y1, e1, o1⟩ := open_rowb g1
  obtain ⟨y5, e5, o5⟩ := open_rowi g5
  subst e1 e5
  exact ⟨⟨kd, y1.a, y1.n, y1.c, y1.l, ii, ll, UInt8.ofNat cc.toNat, y5.a, y5.n, y5.c, y5.ks⟩, by simp only [byte_of _ w4], ⟨i64_of w0, i64_of w2, i64_of w3, o1, o5.len, o5.row, o5.nil, o5.rng⟩⟩
theorem open_acts {v : Option Addr} {len cap : Nat} {d : DataW H} {p : List MemPlace} (h : DataW.Trod enc Try.prog w base (fun _ => true) held 65 (.slice v len cap) d p) :
    ∃ l, Acts w w.heap.size v len l := by
  obtain ⟨fuel, hf⟩ := h
  rcases Deep.open_slice Try.underlying65 hf with ⟨hcs, _⟩ | ⟨a, l, c, m, n, D, Pl, hcs, _, hl, hm, hmm, _, hx⟩
  · simp [Value.cells] at hcs
    obtain ⟨rfl, rfl, rfl⟩ := hcs
    exact ⟨[], rfl, fun x hx => (by cases hx), fun h => absurd h (by omega)⟩
  · simp [Value.cells] at hcs
    obtain ⟨rfl, rfl, rfl⟩ := hcs
    have hmc : len ≤ m := by simp at hmm; omega
    have each : ∀ i, i < len → ∃ y : ActV, ActAt w (a.add (i * 6)) y ∧ ActOk w w.heap.size y := by
      intro i hi
      obtain ⟨cs', h1, h2⟩ := hx i (by omega)
      obtain ⟨y, hy, ho⟩ := open_act h2
      rw [act_wide] at h1
      obtain ⟨_, hlen, hcell⟩ := World.cells?_some h1
      subst hy
      exact ⟨y, ⟨by have h0 := hcell 0 (by omega); rw [add_of_add] at h0; simpa using h0, hcell 1 (by omega), hcell 2 (by omega), hcell 3 (by omega), hcell 4 (by omega), hcell 5 (by omega)⟩, ho⟩
    obtain ⟨Y, hY⟩ := Deep.choose_lt (α := ActV) (p := fun i y => ActAt w (a.add (i * 6)) y ∧ ActOk w w.heap.size y) each
    refine ⟨(List.range len).map Y, by simp, fun x hx => ?_, fun h0 => ⟨a, rfl, ?_, fun j hj => ?_⟩⟩
    · obtain ⟨i, hi, rfl⟩ := List.mem_map.1 hx
      exact (hY i (List.mem_range.1 hi)).2
    · have := block_lt_of_cell (hY 0 h0).1.c0
      rwa [block_of_add] at this
    · simp at hj ⊢
      exact (hY j hj).1
end
end Go.Proofs.Ytlhfhhbafhnbkaa
namespace Go.Proofs.Ytlhfhhbafhnbkaa
open Go.RowKit FieldM CrcM
set_option linter.unusedSimpArgs false
set_option linter.unusedVariables false
/-- what a call leaves of the reference's disk -/
def RPost (s p : Value) (n : Nat) (K' : Dk) (er : Int) (w : World) (e : Ending) (w' : World) : Prop :=
  ∃ s' p', e = .returned (.tuple #[rkV s' p' K', .int .i64 er]) ∧ RK w' s' p' K' n ∧ (∀ b, RowsOf s' p' b → RowsOf s p b ∨ w.heap.size ≤ b) ∧ Chg NoB w w'
theorem write_loose (K : Dk) (i : Int) (l : List UInt8) : (K.write i l).loose.length ≤ K.loose.length + 1 := by
  unfold Dk.write
  split
  · omega
  · show (K.loose ++ [(i, l)]).length ≤ K.loose.length + 1
    simp
theorem sync_loose (K : Dk) : K.sync.loose.length ≤ K.loose.length := by
  unfold Dk.sync
  split
  · exact Nat.le_refl _
  · split
    · exact Nat.le_refl _
    · exact Nat.zero_le _
theorem runOps_two (K : Dk) (i : Int) (l : List UInt8) : runOps K [.wr i l, .sync] = if writeE K i l = 0 then ((K.write i l).sync, syncE (K.write i l)) else (K.write i l, writeE K i l) := by
  show (if writeE K i l = 0 then (if syncE (K.write i l) = 0 then ((K.write i l).sync, 0) else ((K.write i l).sync, syncE (K.write i l))) else (K.write i l, writeE K i l)) = _
  by_cases h : writeE K i l = 0
  · rw [if_pos h, if_pos h]
    by_cases h2 : syncE (K.write i l) = 0
    · rw [if_pos h2, h2]
    · rw [if_neg h2]
  · rw [if_neg h, if_neg h]
def InvRFmt (n nl c1 c2 bx n6 : Nat) (A1 A2 : Option Addr) (fu f6 e0 : Int) (dk d6' : Bool) (y : List UInt8) (K6 : Dk) (w0 : World) (D : Nat → Bool) (a : Act) (w : World) : Prop :=
  ∃ (A6 : Option Addr) (c6 : Nat), a = { tmps := #[.agg #[.slice A1 n c1, .slice A2 nl c2, .int .i64 fu, .bool dk], .pointer (some ⟨bx, 0, none⟩), .pointer (some ⟨bx + 1, 0, none⟩), .int .i64 0, (slot (D 7) (.int .i64 e0) (undef)), .pointer (some ⟨bx, 0, none⟩), .slice A1 n c1, .int .i64 (n : Int), .bool false, undef, (slot (D 3) (.tuple #[.agg #[.slice A1 n c1, .slice A6 n6 c6, .int .i64 f6, .bool d6'], .int .i64 e0]) (undef)), (slot (D 0) (.agg #[.slice A1 n c1, .slice A2 nl c2, .int .i64 fu, .bool dk]) (undef)), (slot (D 1) (.string ⟨(y).toArray⟩) (undef)), (slot (D 2) (.tuple #[.agg #[.slice A1 n c1, .slice A6 n6 c6, .int .i64 f6, .bool d6'], .int .i64 e0]) (undef)), (slot (D 4) (.agg #[.slice A1 n c1, .slice A6 n6 c6, .int .i64 f6, .bool d6']) (undef)), (slot (D 5) (.int .i64 e0) (undef)), undef, undef, undef, undef, undef, undef, undef, undef], defers := [] } ∧
    (D 6 = false → Chg NoB w0 w) ∧
    (D 2 = true → RK w (.slice A1 n c1) (.slice A6 n6 c6) K6 n ∧ (∀ b, RowsOf (.slice A1 n c1) (.slice A6 n6 c6) b → RowsOf (.slice A1 n c1) (.slice A2 nl c2) b ∨ w0.heap.size ≤ b)) ∧
    (D 6 = true → Chg (fun b => b = bx) w0 w ∧ Blk w bx 34 #[.slice A1 n c1, .slice A6 n6 c6, .int .i64 f6, .bool d6'])
set_option maxRecDepth 100000 in
set_option maxHeartbeats 8000000 in
theorem rformat_any {s p : Value} (K : Dk) (n : Nat) (w : World) (hR : RK w s p K n) (hl : K.loose.length ≤ 900) :
    Calls Try.prog 31 #[rkV s p K] w (RPost s p n (formatK K).1 (formatK K).2 w) := by
  obtain ⟨A1, c1, rfl⟩ := own_slice hR.sure
  obtain ⟨A2, c2, hp⟩ := own_slice hR.loose
  obtain ⟨nl, hnl⟩ : ∃ nl, nl = K.loose.length := ⟨_, rfl⟩
  rw [← hnl] at hp
  subst hp
  have HR := Lib.hid hR
  have HL := Lib.hid hl
  have HNN := Lib.hid hR.num
  have hn0 := hR.n0
  have hn1 := hR.n1
  obtain ⟨fu, hfu⟩ : ∃ fu, fu = K.fuse := ⟨_, rfl⟩
  obtain ⟨dk, hdk⟩ : ∃ dk, dk = K.dark := ⟨_, rfl⟩
  have HKV := Lib.hid (show rkV (.slice A1 n c1) (.slice A2 nl c2) K = .agg #[.slice A1 n c1, .slice A2 nl c2, .int .i64 fu, .bool dk] from by rw [hfu, hdk]; rfl)
  rw [HKV.out]
  obtain ⟨w1, hw1⟩ : ∃ w1, w1 = (w.alloc (.cells #[.slice A1 n c1, .slice A2 nl c2, .int .i64 fu, .bool dk] 34)).alloc (.cells #[.slice none 0 0, .slice none 0 0, .int .i64 0, .bool false] 34) := ⟨_, rfl⟩
  obtain ⟨bx, hbx⟩ : ∃ bx, bx = w.heap.size := ⟨_, rfl⟩
  have HC1 := Lib.hid (show Chg NoB w w1 from by rw [hw1]; exact ((Chg.refl _ _).alloc _).alloc _)
  have HB1 := Lib.hid (show Blk w1 bx 34 #[.slice A1 n c1, .slice A2 nl c2, .int .i64 fu, .bool dk] from by rw [hw1, hbx]; exact (Blk.new w _ _).alloc _)
  have HZ1 := Lib.hid (show Blk w1 (bx + 1) 34 #[.slice none 0 0, .slice none 0 0, .int .i64 0, .bool false] from by rw [hw1, hbx]; simpa using Blk.new (w.alloc (.cells #[.slice A1 n c1, .slice A2 nl c2, .int .i64 fu, .bool dk] 34)) 34 #[.slice none 0 0, .slice none 0 0, .int .i64 0, .bool false])
  have HBX := Lib.hid hbx
  have HNB := Lib.hid (show (∀ b, RowsOf (.slice A1 n c1) (.slice A2 nl c2) b → b < bx) from fun b hb => by rw [hbx]; exact hR.lt b hb)
  have k0 := HB1.out.cell 0
  have hbs : w.heap.size + 1 = bx + 1 := by rw [hbx]
  clear hR hl hnl hfu hdk
  go_enter Try.func31, Try.ntmps31
  go_upto_region 1 with fail
  rw [← hw1, ← hbx]
  clear hw1 hbx hbs
  by_cases h3 : n < 3
  · have h3i : (n : Int) < 3 := by omega
    have HF := Lib.hid (show formatK K = (K, 7) from if_pos (by rw [HNN.out]; exact h3i))
    go_wp2_with (first
      | (refine wpList_load_row rfl 34 _ rfl bx rfl 34 _ (0, 0) _ HB1.out Try.underlying34 rfl rd_size ?_)
      | (refine wpList_store_blk rfl 34 _ _ rfl (bx + 1) _ rfl rfl 34 _ HZ1.out rfl rd_size (by simp [Value.oneCell']) ?_)
      | fail)
    try simp only [Exit.inBlock, Exit.then]
    have hbr := HZ1.out.row #[.slice A1 n c1, .slice A2 nl c2, .int .i64 fu, .bool dk]
    have hc2 : Chg NoB w (w1.setRow (bx + 1) #[.slice A1 n c1, .slice A2 nl c2, .int .i64 fu, .bool dk]) := HC1.out.setRow (.inr (by rw [HBX.out]; omega)) _
    refine bodyPost_ret (rd_ret2 rfl _ _ (bx + 1) 34 _ _ _ _ rfl hbr) rfl ⟨_, _, ?_, ?_, fun b h => .inl h, hc2⟩
    · rw [HF.out, HKV.out]; rfl
    · rw [HF.out]; exact HR.out.no hc2
  have h3i : ¬ (n : Int) < 3 := by omega
  have HF := Lib.hid (show formatK K = if writeE K 0 (hdr 0 0 0 0) = 0 then ((K.write 0 (hdr 0 0 0 0)).sync, syncE (K.write 0 (hdr 0 0 0 0))) else (K.write 0 (hdr 0 0 0 0), writeE K 0 (hdr 0 0 0 0)) from by
    unfold formatK; rw [if_neg (by rw [HNN.out]; exact h3i), runOps_two])
  obtain ⟨y, hy⟩ : ∃ y, y = hdr 0 0 0 0 := ⟨_, rfl⟩
  have hyl : y.length = 512 := by rw [hy]; exact hdr_len _ _ _ _
  have HHD := Lib.hid (show ∀ w, Calls Try.prog 15 #[.int .i64 0, .int .i64 0, .string ⟨#[]⟩] w (fun e w' => e = .returned (.string ⟨y.toArray⟩) ∧ Chg NoB w w') from fun w => by rw [hy]; exact rheader_any 0 0 [] (by decide) (by decide) (by decide) w)
  rw [← hy] at HF
  obtain ⟨K6, hK6⟩ : ∃ K6, K6 = K.write 0 y := ⟨_, rfl⟩
  obtain ⟨e0, he0⟩ : ∃ e0, e0 = writeE K 0 y := ⟨_, rfl⟩
  rw [← hK6, ← he0] at HF
  obtain ⟨n6, hn6⟩ : ∃ n6, n6 = K6.loose.length := ⟨_, rfl⟩
  obtain ⟨f6, hf6⟩ : ∃ f6, f6 = K6.fuse := ⟨_, rfl⟩
  obtain ⟨d6', hd6⟩ : ∃ d6, d6 = K6.dark := ⟨_, rfl⟩
  have HK6 := Lib.hid hK6
  have HE0 := Lib.hid he0
  have HN6 := Lib.hid hn6
  have HFD6 := Lib.hid (And.intro hf6 hd6)
  have HYL := Lib.hid hyl
  have HL6 := Lib.hid (show K6.loose.length ≤ 1000 from by rw [hK6]; have h1 := HL.out; have h2 := write_loose K 0 y; omega)
  clear hy hyl hK6 he0 hn6 hf6 hd6
  go_upto_region 3 with (fail)
  refine wp_region_cl rfl (by kernel_rfl) (InvRFmt n nl c1 c2 bx n6 A1 A2 fu f6 e0 dk d6' y K6 w1) ?_ ?_ ?_
  · exact ⟨none, 0, rfl, fun _ => (Chg.refl _ _).drew, (fun h => by cases h), (fun h => by cases h)⟩
  ·
    intro D a w_1 i o ho hD hcl hpre hI
    obtain ⟨A6, c6, rfl, h0, h2, h6⟩ := hI
    have hi : i < 8 := by have := (List.getElem?_eq_some_iff.1 ho).1; simpa using this
    rcases (by omega : i = 0 ∨ i = 1 ∨ i = 2 ∨ i = 3 ∨ i = 4 ∨ i = 5 ∨ i = 6 ∨ i = 7) with rfl | rfl | rfl | rfl | rfl | rfl | rfl | rfl
    · obtain rfl := Option.some.inj ho
      have d6 : D 6 = false := (hcl.not_ 6 _ rfl 2 _ rfl rfl hD)
      clear ho hpre hi hcl
      have hb := HB1.out.chg (h0 d6) (fun h => h)
      go_wp2_with (first
        | (refine wpList_load_row rfl 34 _ rfl bx rfl 34 _ (0, 0) _ hb Try.underlying34 rfl rd_size ?_)
        | fail)
      unfold AtEnd
      exact ⟨A6, c6, by simp only [more, slot_true, slot_false, Nat.reduceEqDiff, ↓reduceIte, d6], fun h => h0 (by simpa [more] using h), fun h => h2 (by simpa [more] using h), fun h => h6 (by simpa [more] using h)⟩
    · obtain rfl := Option.some.inj ho
      have d2 : D 2 = false := (hcl.not_ 2 _ rfl 1 _ rfl rfl hD)
      have d6 : D 6 = false := (hcl.not_ 6 _ rfl 3 _ rfl rfl hD)
      clear ho hpre hi hcl
      have H0 := Lib.hid (h0 d6)
      clear h0 h2 h6
      go_wp2_with fail
      refine (HHD.out w_1).mono ?_
      rintro e w7 ⟨rfl, hc7⟩
      have HC7 := Lib.hid hc7
      clear hc7
      go_wp2_with fail
      unfold AtEnd
      exact ⟨A6, c6, by simp only [more, slot_true, slot_false, Nat.reduceEqDiff, ↓reduceIte, d2, d6], fun _ => H0.out.trans HC7.out (fun _ _ h => h), fun h => by simp [more, d2] at h, fun h => by simp [more, d6] at h⟩
    · obtain rfl := Option.some.inj ho
      have z0 := hpre ⟨0, .data⟩ (by simp) rfl
      have z1 := hpre ⟨1, .data⟩ (by simp) rfl
      have d3 : D 3 = false := (hcl.not_ 3 _ rfl 0 _ rfl rfl hD)
      have d4 : D 4 = false := (hcl.not_ 4 _ rfl 0 _ rfl rfl (hcl.not_ 3 _ rfl 0 _ rfl rfl hD))
      have d6 : D 6 = false := (hcl.not_ 6 _ rfl 1 _ rfl rfl hD)
      clear ho hpre hi hcl
      have H0 := Lib.hid (h0 d6)
      clear h0 h2 h6
      simp only [z0, z1, slot_true]
      go_wp2_with fail
      have hcall := rwrite_any K n w_1 ((HR.out.no HC1.out).no H0.out) (by have := HL.out; omega) 0 y (by rw [HYL.out]; decide)
      rw [HKV.out, show strV y = .string ⟨y.toArray⟩ from rfl, ← HK6.out, ← HE0.out] at hcall
      refine hcall.mono ?_
      clear hcall
      rintro e w7 ⟨p6, rfl, hr6, hrow, hc7⟩
      obtain ⟨B6, k6, hp6⟩ := own_slice hr6.loose
      rw [← HN6.out] at hp6
      subst hp6
      rw [show rkV (.slice A1 n c1) (.slice B6 n6 k6) K6 = .agg #[.slice A1 n c1, .slice B6 n6 k6, .int .i64 f6, .bool d6'] from by rw [HFD6.out.1, HFD6.out.2]; rfl]
      have HR6 := Lib.hid hr6
      have HROW := Lib.hid hrow
      have HCC7 := Lib.hid hc7
      clear hr6 hrow hc7
      go_wp2_with fail
      have hsz0 := H0.out.size
      unfold AtEnd
      exact ⟨B6, k6, by simp only [more, slot_true, slot_false, Nat.reduceEqDiff, ↓reduceIte, z0, z1, d3, d4, d6], fun _ => H0.out.trans HCC7.out (fun _ _ h => h), fun _ => ⟨HR6.out, fun b hb => (HROW.out b hb).imp id (fun h => by omega)⟩, fun h => by simp [more, d6] at h⟩
    · obtain rfl := Option.some.inj ho
      have z2 := hpre ⟨2, .data⟩ (by simp) rfl
      clear ho hpre hi hcl
      go_wp2_with fail
      unfold AtEnd
      exact ⟨A6, c6, by simp only [more, slot_true, slot_false, Nat.reduceEqDiff, ↓reduceIte, z2], fun h => h0 (by simpa [more] using h), fun h => h2 (by simpa [more] using h), fun h => h6 (by simpa [more] using h)⟩
    · obtain rfl := Option.some.inj ho
      have z3 := hpre ⟨3, .data⟩ (by simp) rfl
      clear ho hpre hi hcl
      simp only [z3, slot_true]
      go_wp2_with fail
      unfold AtEnd
      exact ⟨A6, c6, by simp only [more, slot_true, slot_false, Nat.reduceEqDiff, ↓reduceIte, z3], fun h => h0 (by simpa [more] using h), fun h => h2 (by simpa [more] using h), fun h => h6 (by simpa [more] using h)⟩
    · obtain rfl := Option.some.inj ho
      have z3 := hpre ⟨3, .data⟩ (by simp) rfl
      clear ho hpre hi hcl
      simp only [z3, slot_true]
      go_wp2_with fail
      unfold AtEnd
      exact ⟨A6, c6, by simp only [more, slot_true, slot_false, Nat.reduceEqDiff, ↓reduceIte, z3], fun h => h0 (by simpa [more] using h), fun h => h2 (by simpa [more] using h), fun h => h6 (by simpa [more] using h)⟩
    · obtain rfl := Option.some.inj ho
      have z4 := hpre ⟨4, .data⟩ (by simp) rfl
      have z2 := hpre ⟨2, .chain⟩ (by simp) rfl
      have z0 : D 0 = true := (hpre ⟨0, .phase⟩ (by simp) rfl)
      clear ho hpre hi hcl
      have H0 := Lib.hid (h0 hD)
      have H2 := Lib.hid (h2 z2)
      clear h0 h2 h6
      have hbb := HB1.out.chg H0.out (fun h => h)
      have HBB := Lib.hid hbb
      clear hbb
      simp only [z4, slot_true]
      go_wp2_with (first
        | (refine wpList_store_blk rfl 34 _ _ rfl bx _ rfl rfl 34 _ HBB.out rfl rd_size (by simp [Value.oneCell']) ?_)
        | fail)
      unfold AtEnd
      exact ⟨A6, c6, by simp only [more, slot_true, slot_false, Nat.reduceEqDiff, ↓reduceIte, z4, z2, z0], fun h => by simp [more] at h, fun _ => ⟨H2.out.1.chg (S := fun b => b = bx) (Chg.setRow (S := fun b => b = bx) (Chg.refl _ _) (g := bx) (.inl rfl) _) (fun b hb e => by subst e; exact (H2.out.2 _ hb).elim (fun h => by have := HNB.out _ h; omega) (fun h => by have := HB1.out.lt; omega)), H2.out.2⟩, fun _ => ⟨(Chg.mono (S := NoB) (T := fun b => b = bx) H0.out (fun _ _ h => h.elim)).setRow (g := bx) (.inl rfl) _, HBB.out.row _⟩⟩
    · obtain rfl := Option.some.inj ho
      have z5 := hpre ⟨5, .data⟩ (by simp) rfl
      have z6 := hpre ⟨6, .chain⟩ (by simp) rfl
      clear ho hpre hi hcl
      simp only [z5, slot_true]
      go_wp2_with fail
      unfold AtEnd
      exact ⟨A6, c6, by simp only [more, slot_true, slot_false, Nat.reduceEqDiff, ↓reduceIte, z5, z6], fun h => h0 (by simpa [more] using h), fun h => h2 (by simpa [more] using h), fun h => h6 (by simpa [more] using h)⟩
  · intro D a w_1 hall hI
    obtain ⟨A6, c6, rfl, h0, h2, h6⟩ := hI
    have z0 := hall 0 (by decide)
    have z1 := hall 1 (by decide)
    have z2 := hall 2 (by decide)
    have z3 := hall 3 (by decide)
    have z4 := hall 4 (by decide)
    have z5 := hall 5 (by decide)
    have z6 := hall 6 (by decide)
    have z7 := hall 7 (by decide)
    simp only [z0, z1, z2, z3, z4, z5, z6, z7, slot_true]
    have HX6 := Lib.hid (h2 (hall 2 (by decide)))
    have HB6 := Lib.hid (h6 (hall 6 (by decide)))
    clear hall h0 h2 h6 z0 z1 z2 z3 z4 z5 z6 z7
    obtain ⟨w6, hw6⟩ : ∃ w6, w6 = w_1 := ⟨_, rfl⟩
    rw [← hw6] at HX6 HB6 ⊢
    clear hw6
    have HZ6 := Lib.hid (HZ1.out.chg HB6.out.1 (fun h => by have h2 : bx + 1 = bx := h; omega))
    have HC6 := Lib.hid (show Chg NoB w w6 from HC1.out.trans HB6.out.1 (fun i hi e => by have e2 : i = bx := e; have := HBX.out; omega))
    by_cases hz : e0 = 0
    · have HFa := Lib.hid (show formatK K = (K6.sync, syncE K6) from by rw [HF.out, if_pos hz])
      subst hz
      go_wp2_with (first
        | (refine wpList_load_row rfl 34 _ rfl bx rfl 34 _ (0, 0) _ HB6.out.2 Try.underlying34 rfl rd_size ?_)
        | fail)
      have hsy := rsync_any K6 n w6 HX6.out.1 HL6.out
      rw [show rkV (.slice A1 n c1) (.slice A6 n6 c6) K6 = .agg #[.slice A1 n c1, .slice A6 n6 c6, .int .i64 f6, .bool d6'] from by rw [HFD6.out.1, HFD6.out.2]; rfl] at hsy
      refine hsy.mono ?_
      clear hsy
      rintro e w7 ⟨s7, p7, rfl, hr7, hrow7, hc7⟩
      obtain ⟨A7, c7, rfl⟩ := own_slice hr7.sure
      obtain ⟨A8, c8, hp8⟩ := own_slice hr7.loose
      obtain ⟨n7, hn7⟩ : ∃ n7, n7 = K6.sync.loose.length := ⟨_, rfl⟩
      rw [← hn7] at hp8
      subst hp8
      obtain ⟨f7, hf7⟩ : ∃ f7, f7 = K6.sync.fuse := ⟨_, rfl⟩
      obtain ⟨d7', hd7⟩ : ∃ d7, d7 = K6.sync.dark := ⟨_, rfl⟩
      obtain ⟨e7, he7⟩ : ∃ e7, e7 = syncE K6 := ⟨_, rfl⟩
      rw [← he7]
      have HKV7 := Lib.hid (show rkV (.slice A7 n c7) (.slice A8 n7 c8) K6.sync = .agg #[.slice A7 n c7, .slice A8 n7 c8, .int .i64 f7, .bool d7'] from by rw [hf7, hd7]; rfl)
      rw [HKV7.out]
      have HE7 := Lib.hid he7
      have HR7 := Lib.hid hr7
      have HROW7 := Lib.hid hrow7
      have HZ7 := Lib.hid (HZ6.out.chg hc7 (fun h => h))
      have HC7 := Lib.hid (HC6.out.trans hc7 (fun _ _ h => h))
      have HSZ := Lib.hid (show w1.heap.size ≤ w6.heap.size from HB6.out.1.size)
      clear hn7 hf7 hd7 he7 hr7 hrow7 hc7
      go_wp2_with (first
        | (refine wpList_store_blk rfl 34 _ _ rfl (bx + 1) _ rfl rfl 34 _ HZ7.out rfl rd_size (by simp [Value.oneCell']) ?_)
        | fail)
      try simp only [Exit.inBlock, Exit.then]
      have hbr := HZ7.out.row #[.slice A7 n c7, .slice A8 n7 c8, .int .i64 f7, .bool d7']
      have hc8 : Chg NoB w (w7.setRow (bx + 1) #[.slice A7 n c7, .slice A8 n7 c8, .int .i64 f7, .bool d7']) := HC7.out.setRow (.inr (by rw [HBX.out]; omega)) _
      have hro : ∀ b, RowsOf (.slice A7 n c7) (.slice A8 n7 c8) b → RowsOf (.slice A1 n c1) (.slice A2 nl c2) b ∨ w1.heap.size ≤ b := fun b hb => (HROW7.out b hb).elim (fun h => HX6.out.2 b h) (fun h => .inr (by have := HSZ.out; omega))
      refine bodyPost_ret (rd_ret2 rfl _ _ (bx + 1) 34 _ _ _ _ rfl hbr) rfl ⟨_, _, ?_, ?_, fun b hb => (hro b hb).imp id (fun h => by have := HC1.out.size; omega), hc8⟩
      · rw [HFa.out, ← HE7.out, HKV7.out]; rfl
      · rw [HFa.out]
        refine HR7.out.chg (S := fun b => b = bx + 1) (Chg.setRow (S := fun b => b = bx + 1) (Chg.refl _ _) (g := bx + 1) (.inl rfl) _) (fun b hb e => ?_)
        subst e
        exact (hro _ hb).elim (fun h => by have := HNB.out _ h; omega) (fun h => by have := HZ1.out.lt; omega)
    · have hzi : ¬ e0 = 0 := hz
      have HFb := Lib.hid (show formatK K = (K6, e0) from by rw [HF.out, if_neg hz])
      go_wp2_with (first
        | (refine wpList_load_row rfl 34 _ rfl bx rfl 34 _ (0, 0) _ HB6.out.2 Try.underlying34 rfl rd_size ?_)
        | (refine wpList_store_blk rfl 34 _ _ rfl (bx + 1) _ rfl rfl 34 _ HZ6.out rfl rd_size (by simp [Value.oneCell']) ?_)
        | fail)
      try simp only [Exit.inBlock, Exit.then]
      have hbr := HZ6.out.row #[.slice A1 n c1, .slice A6 n6 c6, .int .i64 f6, .bool d6']
      have hc8 : Chg NoB w (w6.setRow (bx + 1) #[.slice A1 n c1, .slice A6 n6 c6, .int .i64 f6, .bool d6']) := HC6.out.setRow (.inr (by rw [HBX.out]; omega)) _
      refine bodyPost_ret (rd_ret2 rfl _ _ (bx + 1) 34 _ _ _ _ rfl hbr) rfl ⟨_, _, ?_, ?_, fun b hb => (HX6.out.2 b hb).imp id (fun h => by have := HC1.out.size; omega), hc8⟩
      · rw [HFb.out, show rkV (.slice A1 n c1) (.slice A6 n6 c6) K6 = .agg #[.slice A1 n c1, .slice A6 n6 c6, .int .i64 f6, .bool d6'] from by rw [HFD6.out.1, HFD6.out.2]; rfl]; rfl
      · rw [HFb.out]
        refine HX6.out.1.chg (S := fun b => b = bx + 1) (Chg.setRow (S := fun b => b = bx + 1) (Chg.refl _ _) (g := bx + 1) (.inl rfl) _) (fun b hb e => ?_)
        subst e
        exact (HX6.out.2 _ hb).elim (fun h => by have := HNB.out _ h; omega) (fun h => by have := HZ1.out.lt; omega)
end Go.Proofs.Ytlhfhhbafhnbkaa
namespace Go.Proofs.Ytlhfhhbafhnbkaa
open Go.RowKit FieldM CrcM
set_option linter.unusedSimpArgs false
set_option linter.unusedVariables false
theorem pieceOps_cut (fr : Int) (b : List UInt8) : ∀ (d q : Nat), ∃ T, pieceOps fr b (q + d) = pieceOps fr b q ++ T
  | 0, q => ⟨[], by simp⟩
  | d + 1, q => by
    obtain ⟨T, hT⟩ := pieceOps_cut fr b d q
    refine ⟨T ++ [Op1.wr (fr + ((q + d : Nat) : Int)) (padL (b.drop (512 * (q + d))))], ?_⟩
    rw [← Nat.add_assoc, pieceOps_succ, hT, List.append_assoc]
theorem runOps_one (K : Dk) (o : Op1) : runOps K [o] = (o.run K, o.err K) := by
  show (if o.err K = 0 then (o.run K, 0) else (o.run K, o.err K)) = _
  by_cases h : o.err K = 0
  · rw [if_pos h, h]
  · rw [if_neg h]
theorem pieces_next {K Kq : Dk} {fr : Int} {b : List UInt8} {q : Nat} (h : runOps K (pieceOps fr b q) = (Kq, 0)) : runOps K (pieceOps fr b (q + 1)) = (Kq.write (fr + (q : Int)) (padL (b.drop (512 * q))), writeE Kq (fr + (q : Int)) (padL (b.drop (512 * q)))) := by
  rw [pieceOps_succ, runOps_app, h, if_pos rfl, runOps_one]; rfl
theorem pieces_stop {K Kq : Dk} {fr : Int} {b : List UInt8} {q cnt : Nat} (R : List Op1) (h : runOps K (pieceOps fr b q) = (Kq, 0)) (hq : q < cnt) (he : ¬ writeE Kq (fr + (q : Int)) (padL (b.drop (512 * q))) = 0) :
    runOps K (pieceOps fr b cnt ++ R) = (Kq.write (fr + (q : Int)) (padL (b.drop (512 * q))), writeE Kq (fr + (q : Int)) (padL (b.drop (512 * q)))) := by
  obtain ⟨T, hT⟩ := pieceOps_cut fr b (cnt - (q + 1)) (q + 1)
  rw [show q + 1 + (cnt - (q + 1)) = cnt from by omega] at hT
  rw [hT, List.append_assoc, runOps_app, pieces_next h, if_neg he]
theorem runOps_three (K : Dk) (i : Int) (l : List UInt8) : runOps K [.sync, .wr i l, .sync] = if syncE K = 0 then runOps K.sync [.wr i l, .sync] else (K.sync, syncE K) := rfl
theorem commitK_ops {K : Dk} {l : List UInt8} (h0 : ldE K = 0) (h1 : ¬ ldH K 0 = 4294967295) (h2 : ¬ roomZ K.n < (l.length : Int)) : commitK K l = runOps K (commitOps K l) := by
  unfold commitK; rw [if_neg (by rw [h0]; decide), if_neg h1, if_neg h2]
theorem ld_low {K : Dk} (h : ldE K = 0) : ldH K 1 ≤ 1 ∧ ldH K 0 < 4294967296 ∧ 3 ≤ K.n := by
  have h0 := h
  unfold ldE at h
  split at h
  · cases h
  · rename_i h3
    split at h
    · cases h
    · split at h
      · rename_i hg
        exact ⟨by unfold ldH; rw [if_pos h0]; exact hg.2.1, by unfold ldH; rw [if_pos h0]; exact fld_lt _, by omega⟩
      · cases h
theorem ext_mid (l : List UInt8) (a b : Nat) : (⟨l.toArray⟩ : ByteArray).extract a b = ⟨((l.drop a).take (b - a)).toArray⟩ := by
  rw [ByteArray.extract_mk]; first | done | simp
theorem pad_piece (l : List UInt8) (q : Nat) (n : Nat) (hn : l.length = n) (hq : 512 * q ≤ n) : (l.drop (512 * q)).take (min n (512 * (q + 1)) - 512 * q) ++ List.replicate (512 - (min n (512 * (q + 1)) - 512 * q)) 0 = padL (l.drop (512 * q)) := by
  unfold padL
  have h1 : (l.drop (512 * q)).length = n - 512 * q := by rw [List.length_drop, hn]
  have h2 : min n (512 * (q + 1)) - 512 * q = Nat.min (n - 512 * q) 512 := by
    show _ = min (n - 512 * q) 512
    omega
  rw [h1, h2]
  have h3 : (l.drop (512 * q)).take (Nat.min (n - 512 * q) 512) = (l.drop (512 * q)).take 512 := by
    show (l.drop (512 * q)).take (min (n - 512 * q) 512) = _
    rw [List.take_eq_take_iff, h1]
    first | done | omega
  rw [h3]
  congr 1
  show _ = (List.replicate 512 0).drop _
  rw [List.drop_replicate]
def InvRC13 (n nl bx q lg lw c1 n9 c9 n6 pn M : Nat) (A1 A9 : Option Addr) (hh rz pe fr sw mI f9 f6 e0 : Int) (dr d9 d6' : Bool) (mq tq u5 u9 u45 u46 u57 u58 u59 u60 u61 u62 u63 u64 u65 u66 u67 u68 u69 u70 u71 u72 u73 u74 u75 u76 u77 u78 u79 : Value) (l lb pc Z y : List UInt8) (K6 : Dk) (w0 : World) (D : Nat → Bool) (a : Act) (w : World) : Prop :=
  ∃ (A6 : Option Addr) (c6 : Nat) (s12 : Nat), a = { tmps := #[mq, .string ⟨(l).toArray⟩, .pointer (some ⟨bx, 0, none⟩), undef, .pointer (some ⟨bx + 1, 0, none⟩), u5, .string ⟨(lb).toArray⟩, .int .i64 (lg : Int), .int .i64 (lw : Int), (slot (D 20) (.int .i64 e0) (u9)), .int .i64 hh, .int .i64 (q : Int), .string ⟨(pc).toArray⟩, tq, mq, tq, .string ⟨(lb).toArray⟩, .int .i64 (lg : Int), .int .i64 (lw : Int), .int .i64 0, .int .i64 0, .bool false, undef, undef, .int .i64 (lg : Int), .bool false, undef, .string ⟨(l).toArray⟩, .int .i64 (l.length : Int), .pointer (some ⟨bx, 0, none⟩), .slice A1 n c1, .int .i64 (n : Int), .int .i64 rz, .bool dr, undef, .pointer (some ⟨bx, 0, none⟩), .slice A1 n c1, .int .i64 (n : Int), .int .i64 ((n : Int) - 1), .int .i64 hh, .int .i64 (q : Int), .int .i64 ((q : Int) * 512), .string ⟨(l).toArray⟩, .int .i64 (l.length : Int), .bool true, u45, u46, .string ⟨(l).toArray⟩, .int .i64 (q : Int), .int .i64 ((q : Int) * 512), .string ⟨(l).toArray⟩, .int .i64 (l.length : Int), .int .i64 (q : Int), .int .i64 ((q : Int) + 1), .int .i64 (((q : Int) + 1) * 512), .int .i64 pe, .string ⟨(pc).toArray⟩, (slot (D 16) (.tuple #[.agg #[.slice A1 n c1, .slice A6 n6 c6, .int .i64 f6, .bool d6'], .int .i64 e0]) (u57)), (slot (D 0) (.agg #[.slice A1 n c1, .slice A9 n9 c9, .int .i64 f9, .bool d9]) (u58)), (slot (D 1) (.int .i64 (lw : Int)) (u59)), (slot (D 2) (.int .i64 sw) (u60)), (slot (D 3) (.int .i64 hh) (u61)), (slot (D 4) (.int .i64 mI) (u62)), (slot (D 5) (.int .i64 fr) (u63)), (slot (D 6) (.int .i64 (q : Int)) (u64)), (slot (D 7) (.int .i64 (fr + (q : Int))) (u65)), (slot (D 8) (.string ⟨(pc).toArray⟩) (u66)), (slot (D 9) (.string ⟨(pc).toArray⟩) (u67)), (slot (D 10) (.int .i64 (pn : Int)) (u68)), (slot (D 11) (.int .i64 (M : Int)) (u69)), (slot (D 12) (.slice (some ⟨s12, 0, none⟩) M M) (u70)), (slot (D 13) (.string ⟨(Z).toArray⟩) (u71)), (slot (D 14) (.string ⟨(y).toArray⟩) (u72)), (slot (D 15) (.tuple #[.agg #[.slice A1 n c1, .slice A6 n6 c6, .int .i64 f6, .bool d6'], .int .i64 e0]) (u73)), (slot (D 17) (.agg #[.slice A1 n c1, .slice A6 n6 c6, .int .i64 f6, .bool d6']) (u74)), (slot (D 18) (.int .i64 e0) (u75)), u76, u77, u78, u79, undef, undef, undef, undef, undef, undef, undef, undef, undef, undef, undef, undef, undef, undef, undef, undef, undef, undef, undef, undef, undef, undef, undef, undef, undef, undef, undef, undef], defers := [] } ∧
    (D 19 = false → Chg NoB w0 w) ∧
    (D 12 = true → D 19 = false → RB w w.heap.size (some ⟨s12, 0, none⟩) Z) ∧
    (D 15 = true → RK w (.slice A1 n c1) (.slice A6 n6 c6) K6 n ∧ (∀ b, RowsOf (.slice A1 n c1) (.slice A6 n6 c6) b → RowsOf (.slice A1 n c1) (.slice A9 n9 c9) b ∨ w0.heap.size ≤ b)) ∧
    (D 19 = true → Chg (fun b => b = bx) w0 w ∧ Blk w bx 34 #[.slice A1 n c1, .slice A6 n6 c6, .int .i64 f6, .bool d6'])
def InvRC19 (n nl bx q lg lw c1 n9 c9 n6 c7 n8 c8 : Nat) (A1 A9 A7 A8 : Option Addr) (hh rz sw g1 f9 f6 f7 e0 : Int) (dr dq d9 d6' d7' : Bool) (mq tq u5 u12 u45 u46 u47 u48 u49 u50 u51 u52 u53 u54 u55 u56 u57 u58 u59 u60 u61 u62 u63 u64 u65 u66 u67 u68 u69 u70 u71 u72 u73 u74 u75 u76 u77 u78 u79 : Value) (l lb yh : List UInt8) (K6 : Dk) (w0 : World) (D : Nat → Bool) (a : Act) (w : World) : Prop :=
  ∃ (A6 : Option Addr) (c6 : Nat), a = { tmps := #[mq, .string ⟨(l).toArray⟩, .pointer (some ⟨bx, 0, none⟩), undef, .pointer (some ⟨bx + 1, 0, none⟩), u5, .string ⟨(lb).toArray⟩, .int .i64 (lg : Int), .int .i64 (lw : Int), (slot (D 12) (.int .i64 e0) (.int .i64 0)), .int .i64 hh, .int .i64 (q : Int), u12, tq, mq, tq, .string ⟨(lb).toArray⟩, .int .i64 (lg : Int), .int .i64 (lw : Int), .int .i64 0, .int .i64 0, .bool false, undef, undef, .int .i64 (lg : Int), .bool false, undef, .string ⟨(l).toArray⟩, .int .i64 (l.length : Int), .pointer (some ⟨bx, 0, none⟩), .slice A1 n c1, .int .i64 (n : Int), .int .i64 rz, .bool dr, undef, .pointer (some ⟨bx, 0, none⟩), .slice A1 n c1, .int .i64 (n : Int), .int .i64 ((n : Int) - 1), .int .i64 hh, .int .i64 (q : Int), .int .i64 ((q : Int) * 512), .string ⟨(l).toArray⟩, .int .i64 (l.length : Int), .bool dq, u45, u46, u47, u48, u49, u50, u51, u52, u53, u54, u55, u56, u57, u58, u59, u60, u61, u62, u63, u64, u65, u66, u67, u68, u69, u70, u71, u72, u73, u74, u75, u76, u77, u78, u79, .tuple #[.agg #[.slice A7 n c7, .slice A8 n8 c8, .int .i64 f7, .bool d7'], .int .i64 0], .agg #[.slice A1 n c1, .slice A9 n9 c9, .int .i64 f9, .bool d9], .tuple #[.agg #[.slice A7 n c7, .slice A8 n8 c8, .int .i64 f7, .bool d7'], .int .i64 0], .agg #[.slice A7 n c7, .slice A8 n8 c8, .int .i64 f7, .bool d7'], .int .i64 0, .int .i64 0, .bool false, undef, undef, (slot (D 8) (.tuple #[.agg #[.slice A7 n c7, .slice A6 n6 c6, .int .i64 f6, .bool d6'], .int .i64 e0]) (undef)), (slot (D 0) (.agg #[.slice A7 n c7, .slice A8 n8 c8, .int .i64 f7, .bool d7']) (undef)), (slot (D 1) (.int .i64 (lg : Int)) (undef)), (slot (D 2) (.int .i64 g1) (undef)), (slot (D 3) (.int .i64 (lw : Int)) (undef)), (slot (D 4) (.int .i64 sw) (undef)), (slot (D 5) (.string ⟨(l).toArray⟩) (undef)), (slot (D 6) (.string ⟨(yh).toArray⟩) (undef)), (slot (D 7) (.tuple #[.agg #[.slice A7 n c7, .slice A6 n6 c6, .int .i64 f6, .bool d6'], .int .i64 e0]) (undef)), (slot (D 9) (.agg #[.slice A7 n c7, .slice A6 n6 c6, .int .i64 f6, .bool d6']) (undef)), (slot (D 10) (.int .i64 e0) (undef)), undef, undef, undef, undef, undef, undef, undef, undef], defers := [] } ∧
    (D 11 = false → Chg NoB w0 w) ∧
    (D 7 = true → RK w (.slice A7 n c7) (.slice A6 n6 c6) K6 n ∧ (∀ b, RowsOf (.slice A7 n c7) (.slice A6 n6 c6) b → RowsOf (.slice A7 n c7) (.slice A8 n8 c8) b ∨ w0.heap.size ≤ b)) ∧
    (D 11 = true → Chg (fun b => b = bx) w0 w ∧ Blk w bx 34 #[.slice A7 n c7, .slice A6 n6 c6, .int .i64 f6, .bool d6'])
set_option maxRecDepth 100000 in
set_option maxHeartbeats 8000000 in
theorem rcommit_any {s p : Value} (K : Dk) (n m : Nat) (w : World) (hR : RK w s p K n) (hk : KOk K m) (hm : m ≤ 800) (hn100 : n ≤ 100) (l : List UInt8) (hlb : l.length ≤ 1000000) :
    Calls Try.prog 30 #[rkV s p K, .string ⟨l.toArray⟩] w (RPost s p n (commitK K l).1 (commitK K l).2 w) := by
  obtain ⟨A1, c1, rfl⟩ := own_slice hR.sure
  obtain ⟨A2, c2, hp⟩ := own_slice hR.loose
  obtain ⟨nl, hnl⟩ : ∃ nl, nl = K.loose.length := ⟨_, rfl⟩
  rw [← hnl] at hp
  subst hp
  have HR := Lib.hid hR
  have HKO := Lib.hid hk
  have HM := Lib.hid hm
  have HL := Lib.hid (show K.loose.length ≤ 800 from Nat.le_trans hk.loose hm)
  have HNN := Lib.hid hR.num
  have hn0 := hR.n0
  obtain ⟨fu, hfu⟩ : ∃ fu, fu = K.fuse := ⟨_, rfl⟩
  obtain ⟨dk, hdk⟩ : ∃ dk, dk = K.dark := ⟨_, rfl⟩
  have HKV := Lib.hid (show rkV (.slice A1 n c1) (.slice A2 nl c2) K = .agg #[.slice A1 n c1, .slice A2 nl c2, .int .i64 fu, .bool dk] from by rw [hfu, hdk]; rfl)
  rw [HKV.out]
  obtain ⟨w1, hw1⟩ : ∃ w1, w1 = (w.alloc (.cells #[.slice A1 n c1, .slice A2 nl c2, .int .i64 fu, .bool dk] 34)).alloc (.cells #[.slice none 0 0, .slice none 0 0, .int .i64 0, .bool false] 34) := ⟨_, rfl⟩
  obtain ⟨bx, hbx⟩ : ∃ bx, bx = w.heap.size := ⟨_, rfl⟩
  have HC1 := Lib.hid (show Chg NoB w w1 from by rw [hw1]; exact ((Chg.refl _ _).alloc _).alloc _)
  have HB1 := Lib.hid (show Blk w1 bx 34 #[.slice A1 n c1, .slice A2 nl c2, .int .i64 fu, .bool dk] from by rw [hw1, hbx]; exact (Blk.new w _ _).alloc _)
  have HZ1 := Lib.hid (show Blk w1 (bx + 1) 34 #[.slice none 0 0, .slice none 0 0, .int .i64 0, .bool false] from by rw [hw1, hbx]; simpa using Blk.new (w.alloc (.cells #[.slice A1 n c1, .slice A2 nl c2, .int .i64 fu, .bool dk] 34)) 34 #[.slice none 0 0, .slice none 0 0, .int .i64 0, .bool false])
  have HBX := Lib.hid (show bx = w.heap.size ∧ bx + 1 < w1.heap.size from ⟨hbx, HZ1.out.lt⟩)
  have HNB := Lib.hid (show (∀ b, RowsOf (.slice A1 n c1) (.slice A2 nl c2) b → b < bx) from fun b hb => by rw [hbx]; exact hR.lt b hb)
  have HX1 := Lib.hid (hR.no HC1.out)
  have hbs : w.heap.size + 1 = bx + 1 := by rw [hbx]
  obtain ⟨le, hle⟩ : ∃ le, le = ldE K := ⟨_, rfl⟩
  obtain ⟨lg, hlg⟩ : ∃ lg, lg = ldH K 0 := ⟨_, rfl⟩
  obtain ⟨lw, hlw⟩ : ∃ lw, lw = ldH K 1 := ⟨_, rfl⟩
  have HLV := Lib.hid (And.intro hle (And.intro hlg hlw))
  have HN100 := Lib.hid hn100
  have HLB := Lib.hid hlb
  clear hR hk hm hnl hfu hdk hle hlg hlw hn100 hlb
  go_enter Try.func30, Try.ntmps30
  go_upto_region 1 with fail
  rw [← hw1, ← hbx]
  clear hw1 hbx hbs
  go_wp2_with (first
    | (refine wpList_load_row rfl 34 _ rfl bx rfl 34 _ (0, 0) _ HB1.out Try.underlying34 rfl rd_size ?_)
    | fail)
  have hrl := rload_any K n m w1 HX1.out HKO.out (by have := HM.out; omega)
  rw [HKV.out] at hrl
  refine hrl.mono ?_
  clear hrl
  rintro e w2 ⟨rfl, hc2⟩
  rw [← HLV.out.1, ← HLV.out.2.1, ← HLV.out.2.2]
  have HC2 := Lib.hid (HC1.out.trans hc2 (fun _ _ h => h))
  have HB2 := Lib.hid (HB1.out.chg hc2 (fun h => h))
  have HZ2 := Lib.hid (HZ1.out.chg hc2 (fun h => h))
  have HX2 := Lib.hid (HX1.out.no hc2)
  have HROW2 := Lib.hid (show ∀ b, RowsOf (.slice A1 n c1) (.slice A2 nl c2) b → RowsOf (.slice A1 n c1) (.slice A2 nl c2) b ∨ w1.heap.size ≤ b from fun b h => .inl h)
  have HSZ2 := Lib.hid hc2.size
  clear hc2 HX1 HB1
  obtain ⟨lb, hlb'⟩ : ∃ lb, lb = ldB K := ⟨_, rfl⟩
  rw [← hlb']
  clear hlb'
  unfold strV
  by_cases hE : le = 0
  case neg =>
    have hEi : ¬ le = 0 := hE
    have HF := Lib.hid (show commitK K l = (K, le) from by unfold commitK; rw [if_pos (by rw [← HLV.out.1]; exact hE), ← HLV.out.1])
    go_wp2_with (first
      | (refine wpList_load_row rfl 34 _ rfl bx rfl 34 _ (0, 0) _ HB2.out Try.underlying34 rfl rd_size ?_)
      | (refine wpList_store_blk rfl 34 _ _ rfl (bx + 1) _ rfl rfl 34 _ HZ2.out rfl rd_size (by simp [Value.oneCell']) ?_)
      | fail)
    try simp only [Exit.inBlock, Exit.then]
    have hbr := HZ2.out.row #[.slice A1 n c1, .slice A2 nl c2, .int .i64 fu, .bool dk]
    have hc8 : Chg NoB w (w2.setRow (bx + 1) #[.slice A1 n c1, .slice A2 nl c2, .int .i64 fu, .bool dk]) := HC2.out.setRow (.inr (by rw [HBX.out.1]; omega)) _
    refine bodyPost_ret (rd_ret2 rfl _ _ (bx + 1) 34 _ _ _ _ rfl hbr) rfl ⟨_, _, ?_, ?_, fun b hb => (HROW2.out b hb).imp id (fun h => by have := HC1.out.size; omega), hc8⟩
    · rw [HF.out, HKV.out]; rfl
    · rw [HF.out]
      refine HX2.out.chg (S := fun b => b = bx + 1) (Chg.setRow (S := fun b => b = bx + 1) (Chg.refl _ _) (g := bx + 1) (.inl rfl) _) (fun b hb e => ?_)
      subst e
      exact (HROW2.out _ hb).elim (fun h => by have := HNB.out _ h; omega) (fun h => by have := HBX.out.2; omega)
  obtain rfl := hE
  have hlow := ld_low HLV.out.1.symm
  rw [← HLV.out.2.1, ← HLV.out.2.2] at hlow
  obtain ⟨hw1', hg1', h3'⟩ := hlow
  have HLOW := Lib.hid (And.intro hw1' (And.intro hg1' h3'))
  clear h3'
  by_cases hG : lg = 4294967295
  · have hGi : (lg : Int) = 4294967295 := by omega
    have HF := Lib.hid (show commitK K l = (K, 3) from by unfold commitK; rw [if_neg (by rw [← HLV.out.1]; decide), if_pos (by rw [← HLV.out.2.1]; exact hG)])
    clear hG
    go_wp2_with (first
      | (refine wpList_load_row rfl 34 _ rfl bx rfl 34 _ (0, 0) _ HB2.out Try.underlying34 rfl rd_size ?_)
      | (refine wpList_store_blk rfl 34 _ _ rfl (bx + 1) _ rfl rfl 34 _ HZ2.out rfl rd_size (by simp [Value.oneCell']) ?_)
      | fail)
    try simp only [Exit.inBlock, Exit.then]
    have hbr := HZ2.out.row #[.slice A1 n c1, .slice A2 nl c2, .int .i64 fu, .bool dk]
    have hc8 : Chg NoB w (w2.setRow (bx + 1) #[.slice A1 n c1, .slice A2 nl c2, .int .i64 fu, .bool dk]) := HC2.out.setRow (.inr (by rw [HBX.out.1]; omega)) _
    refine bodyPost_ret (rd_ret2 rfl _ _ (bx + 1) 34 _ _ _ _ rfl hbr) rfl ⟨_, _, ?_, ?_, fun b hb => (HROW2.out b hb).imp id (fun h => by have := HC1.out.size; omega), hc8⟩
    · rw [HF.out, HKV.out]; rfl
    · rw [HF.out]
      refine HX2.out.chg (S := fun b => b = bx + 1) (Chg.setRow (S := fun b => b = bx + 1) (Chg.refl _ _) (g := bx + 1) (.inl rfl) _) (fun b hb e => ?_)
      subst e
      exact (HROW2.out _ hb).elim (fun h => by have := HNB.out _ h; omega) (fun h => by have := HBX.out.2; omega)
  have hGi : ¬ (lg : Int) = 4294967295 := by omega
  obtain ⟨rz, hrz⟩ : ∃ rz, rz = roomZ (n : Int) := ⟨_, rfl⟩
  have HRZ := Lib.hid hrz
  have k0 := HB2.out.cell 0
  clear hrz
  go_upto_region 6 with (fail)
  go_wp2_with fail
  refine (rroom_any (n : Int) (by omega) (by have := HN100.out; omega) w2).mono ?_
  rintro e w2' ⟨rfl, hww⟩
  obtain rfl : w2 = w2' := hww.symm
  clear hww
  rw [← HRZ.out]
  by_cases hS : rz < (l.length : Int)
  · have hSi : rz < (l.length : Int) := hS
    have HF := Lib.hid (show commitK K l = (K, 7) from by unfold commitK; rw [if_neg (by rw [← HLV.out.1]; decide), if_neg (by rw [← HLV.out.2.1]; intro h; apply hGi; omega), if_pos (by rw [HNN.out, ← HRZ.out]; exact hS)])
    clear hS k0
    go_wp2_with (first
      | (refine wpList_load_row rfl 34 _ rfl bx rfl 34 _ (0, 0) _ HB2.out Try.underlying34 rfl rd_size ?_)
      | (refine wpList_store_blk rfl 34 _ _ rfl (bx + 1) _ rfl rfl 34 _ HZ2.out rfl rd_size (by simp [Value.oneCell']) ?_)
      | fail)
    try simp only [Exit.inBlock, Exit.then]
    have hbr := HZ2.out.row #[.slice A1 n c1, .slice A2 nl c2, .int .i64 fu, .bool dk]
    have hc8 : Chg NoB w (w2.setRow (bx + 1) #[.slice A1 n c1, .slice A2 nl c2, .int .i64 fu, .bool dk]) := HC2.out.setRow (.inr (by rw [HBX.out.1]; omega)) _
    refine bodyPost_ret (rd_ret2 rfl _ _ (bx + 1) 34 _ _ _ _ rfl hbr) rfl ⟨_, _, ?_, ?_, fun b hb => (HROW2.out b hb).imp id (fun h => by have := HC1.out.size; omega), hc8⟩
    · rw [HF.out, HKV.out]; rfl
    · rw [HF.out]
      refine HX2.out.chg (S := fun b => b = bx + 1) (Chg.setRow (S := fun b => b = bx + 1) (Chg.refl _ _) (g := bx + 1) (.inl rfl) _) (fun b hb e => ?_)
      subst e
      exact (HROW2.out _ hb).elim (fun h => by have := HNB.out _ h; omega) (fun h => by have := HBX.out.2; omega)
  have hSi : ¬ rz < (l.length : Int) := hS
  obtain ⟨hh, hhe⟩ : ∃ hh, hh = halfZ (n : Int) := ⟨_, rfl⟩
  have hb : 0 ≤ hh ∧ hh ≤ 50 ∧ 1 + 2 * hh ≤ (n : Int) ∧ hh = ((n : Int) - 1) / 2 := by rw [hhe]; have := HN100.out; unfold halfZ; omega
  have hsz : (l.length : Int) ≤ hh * 512 := by
    have h1 := HRZ.out
    unfold roomZ at h1
    rw [← hhe] at h1
    split at h1
    · omega
    · omega
  have hq1 : Int.tdiv ((n : Int) - 1) 2 = hh := by rw [Int.tdiv_eq_ediv_of_nonneg (by omega)]; exact hb.2.2.2.symm
  have hq2 : RowKit.wrap64 ((n : Int) - 1) = (n : Int) - 1 := IntWalk.wrap64_in _ (by have := HN100.out; omega)
  have hq3 : RowKit.wrap64 hh = hh := IntWalk.wrap64_in _ (by omega)
  obtain ⟨b0, b1, b2, b3⟩ := hb
  have HSZ := Lib.hid hsz
  have HBB := Lib.hid (And.intro b0 (And.intro b1 b2))
  have HHE := Lib.hid hhe
  obtain ⟨fr, hfr⟩ : ∃ fr, fr = nextFrom K := ⟨_, rfl⟩
  obtain ⟨sw, hsw⟩ : ∃ sw : Int, sw = 1 - (lw : Int) := ⟨_, rfl⟩
  obtain ⟨mI, hmI⟩ : ∃ mI : Int, mI = sw * hh := ⟨_, rfl⟩
  have hfr2 : fr = 1 + mI := by
    rw [hfr, hmI, hsw]; unfold nextFrom
    rw [← HLV.out.2.2, HNN.out, ← hhe, show ((1 - lw : Nat) : Int) = 1 - (lw : Int) from by have := HLOW.out.1; omega]
  have hmb : 0 ≤ mI ∧ mI ≤ hh := by
    rw [hmI, hsw]
    rcases (by have := HLOW.out.1; omega : lw = 0 ∨ lw = 1) with rfl | rfl <;> simp <;> omega
  have HFR := Lib.hid (show fr = nextFrom K ∧ 1 ≤ fr ∧ fr ≤ 51 from ⟨hfr, by omega, by omega⟩)
  have HW1 := Lib.hid (show RowKit.wrap64 (1 - (lw : Int)) = sw from by rw [← hsw]; exact IntWalk.wrap64_in _ (by have := HLOW.out.1; omega))
  have HW2 := Lib.hid (show RowKit.wrap64 (sw * hh) = mI from by rw [← hmI]; exact IntWalk.wrap64_in _ (by omega))
  have HW3 := Lib.hid (show RowKit.wrap64 (1 + mI) = fr from by rw [← hfr2]; exact IntWalk.wrap64_in _ (by omega))
  have HSW := Lib.hid (And.intro hsw (And.intro hmI hfr2))
  obtain ⟨cnt, hcnt⟩ : ∃ cnt, cnt = cntOf l.length := ⟨_, rfl⟩
  have hcb : cnt ≤ 51 := by rw [hcnt]; unfold cntOf; omega
  have HCN := Lib.hid (show cnt = cntOf l.length ∧ cnt ≤ 51 from ⟨hcnt, hcb⟩)
  have HF1 := Lib.hid (show commitK K l = runOps K (pieceOps fr l cnt ++ [.sync, .wr 0 (hdr (lg + 1) (1 - lw) l.length (crcN l)), .sync]) from by
    rw [commitK_ops HLV.out.1.symm (by rw [← HLV.out.2.1]; intro h; apply hGi; omega) (by rw [HNN.out, ← HRZ.out]; exact hSi)]
    unfold commitOps
    rw [← hfr, ← HLV.out.2.1, ← HLV.out.2.2, ← hcnt])
  have hcl : l.length ≤ 512 * cnt ∧ 512 * cnt ≤ l.length + 511 := by rw [hcnt]; unfold cntOf; omega
  have HCL := Lib.hid hcl
  clear hhe hfr hsw hmI hfr2 hmb hcnt hcb hsz b0 b1 b2 b3 hcl
  go_upto_region 9 with (fail)
  rw [hq3, hq2]
  clear hq1 hq2 hq3 k0
  generalize decide (rz < (l.length : Int)) = dr
  generalize (Value.tuple #[.string ⟨lb.toArray⟩, .int .i64 (lg : Int), .int .i64 (lw : Int), .int .i64 0]) = tq
  generalize (Value.agg #[.slice A1 n c1, .slice A2 nl c2, .int .i64 fu, .bool dk]) = mq
  go_wp2_with fail
  go_loopw [11] (fun i wr => ∃ (q : Nat) (Kq : Dk) (p : Value), q ≤ cnt ∧ i = .int .i64 (q : Int) ∧ RowKit.Hid (RK wr (.slice A1 n c1) p Kq n) ∧ RowKit.Hid (∀ b, RowsOf (.slice A1 n c1) p b → RowsOf (.slice A1 n c1) (.slice A2 nl c2) b ∨ w1.heap.size ≤ b) ∧ RowKit.Hid (Blk wr bx 34 (rdC (.slice A1 n c1) p Kq.fuse Kq.dark)) ∧ RowKit.Hid (Blk wr (bx + 1) 34 #[.slice none 0 0, .slice none 0 0, .int .i64 0, .bool false]) ∧ RowKit.Hid (runOps K (pieceOps fr l q) = (Kq, 0)) ∧ RowKit.Hid (Kq.loose.length ≤ K.loose.length + q) ∧ RowKit.Hid (Chg NoB w wr) ∧ w1.heap.size ≤ wr.heap.size) (fun i _ => cnt - (intOf i).toNat)
  case atStart => exact ⟨0, K, _, Nat.zero_le _, rfl, HX2, HROW2, Lib.hid (by have h := HKV.out; unfold rkV at h; injection h with h; rw [h]; exact HB2.out), HZ2, Lib.hid rfl, Lib.hid (Nat.le_refl _), HC2, HSZ2.out⟩
  case round =>
    obtain ⟨q, Kq, p, hq, rfl, HXQ, HROWQ, HBQ, HZQ, HRUN, HLQ, HCQ, hszr⟩ := hrel
    obtain ⟨A9, c9, hp9⟩ := own_slice HXQ.out.loose
    obtain ⟨n9, hn9⟩ : ∃ n9, n9 = Kq.loose.length := ⟨_, rfl⟩
    rw [← hn9] at hp9
    subst hp9
    obtain ⟨f9, hf9⟩ : ∃ f9, f9 = Kq.fuse := ⟨_, rfl⟩
    obtain ⟨d9, hd9⟩ : ∃ d9, d9 = Kq.dark := ⟨_, rfl⟩
    have HKV9 := Lib.hid (show rkV (.slice A1 n c1) (.slice A9 n9 c9) Kq = .agg #[.slice A1 n c1, .slice A9 n9 c9, .int .i64 f9, .bool d9] from by rw [hf9, hd9]; rfl)
    have HB9 := Lib.hid (show Blk wr bx 34 #[.slice A1 n c1, .slice A9 n9 c9, .int .i64 f9, .bool d9] from by rw [hf9, hd9]; exact HBQ.out)
    have HFD9 := Lib.hid (And.intro hf9 hd9)
    have HSZ1 := Lib.hid (show w1.heap.size ≤ wr.heap.size from hszr)
    have HSZQ := Lib.hid (show w1.heap.size ≤ wr.heap.size from hszr)
    clear hn9 hf9 hd9 HBQ hszr
    have hqc := HCN.out.2
    have hlen := HLB.out
    by_cases hlt : q * 512 < l.length
    · have hltI : (q : Int) * 512 < (l.length : Int) := by omega
      have HLT := Lib.hid hlt
      have HQ := Lib.hid hq
      clear hlt hq
      obtain ⟨pN, hpN⟩ : ∃ pN, pN = min l.length (512 * (q + 1)) := ⟨_, rfl⟩
      obtain ⟨pe, hpe⟩ : ∃ pe : Int, pe = (pN : Int) := ⟨_, rfl⟩
      obtain ⟨pc, hpc⟩ : ∃ pc, pc = (l.drop (512 * q)).take (pN - 512 * q) := ⟨_, rfl⟩
      have hmin : (if ((q : Int) + 1) * 512 < (l.length : Int) then ((q : Int) + 1) * 512 else (l.length : Int)) = pe := by rw [hpe, hpN]; have := HLT.out; split <;> omega
      have hsz0 : (⟨l.toArray⟩ : ByteArray).size = l.length := by simp [ByteArray.size]
      have hsl : ∀ w, (Instr.slice 9 (.string ⟨l.toArray⟩) (some (.int .i64 ((q : Int) * 512))) (some (.int .i64 pe)) none).run Try.prog w = .ok (.string ⟨pc.toArray⟩) w := by
        intro w
        rw [run_slice_string _ _ _ _ _ _ _ Try.underlying9 (by omega) (by rw [hpe, hpN]; have := HLT.out; omega) (by rw [hsz0, hpe, hpN]; omega), ext_mid, hpc, hpe, show ((q : Int) * 512).toNat = 512 * q from by omega]
        rfl
      obtain ⟨pn, hpn⟩ : ∃ pn, pn = pN - 512 * q := ⟨_, rfl⟩
      have hpcl : pc.length = pn := by rw [hpc, List.length_take, List.length_drop, hpn, hpN]; have := HLT.out; omega
      have hpb : pn ≤ 512 := by rw [hpn, hpN]; omega
      obtain ⟨M, hM⟩ : ∃ M, M = 512 - pn := ⟨_, rfl⟩
      obtain ⟨Z, hZ⟩ : ∃ Z : List UInt8, Z = List.replicate M 0 := ⟨_, rfl⟩
      obtain ⟨y, hy⟩ : ∃ y, y = padL (l.drop (512 * q)) := ⟨_, rfl⟩
      have hyz : pc ++ Z = y := by rw [hpc, hZ, hM, hpn, hy, hpN]; exact pad_piece l q l.length rfl (by have := HLT.out; omega)
      have HPC := Lib.hid (And.intro hpcl hpb)
      have HZQ2 := Lib.hid (show Z = List.replicate M 0 ∧ Z.length = M ∧ M + pn = 512 from ⟨hZ, by rw [hZ, List.length_replicate], by omega⟩)
      have HY := Lib.hid (show y = padL (l.drop (512 * q)) ∧ y.length = 512 ∧ pc ++ Z = y from ⟨hy, by rw [hy]; exact padL_len _, hyz⟩)
      clear hpN hpe hpc hpn hpcl hpb hM hZ hy hyz
      obtain ⟨K6, hK6⟩ : ∃ K6, K6 = Kq.write (fr + (q : Int)) y := ⟨_, rfl⟩
      obtain ⟨e0, he0⟩ : ∃ e0, e0 = writeE Kq (fr + (q : Int)) y := ⟨_, rfl⟩
      obtain ⟨n6, hn6⟩ : ∃ n6, n6 = K6.loose.length := ⟨_, rfl⟩
      obtain ⟨f6, hf6⟩ : ∃ f6, f6 = K6.fuse := ⟨_, rfl⟩
      obtain ⟨d6', hd6⟩ : ∃ d6, d6 = K6.dark := ⟨_, rfl⟩
      have HK6 := Lib.hid hK6
      have HE0 := Lib.hid he0
      have HN6 := Lib.hid hn6
      have HFD6 := Lib.hid (And.intro hf6 hd6)
      have HW4 := Lib.hid (show RowKit.wrap64 (fr + (q : Int)) = fr + (q : Int) from IntWalk.wrap64_in _ (by have := HFR.out.2; have := HLT.out; have := HSZ.out; have := HBB.out; omega))
      have HKV6 := Lib.hid (show ∀ B k, rkV (.slice A1 n c1) (.slice B n6 k) K6 = .agg #[.slice A1 n c1, .slice B n6 k, .int .i64 f6, .bool d6'] from fun B k => by rw [hf6, hd6]; rfl)
      have HLO9 := Lib.hid (show Kq.loose.length ≤ 1000 from by have h1 := HLQ.out; have h2 := HL.out; have h3 := HQ.out; omega)
      clear hK6 he0 hn6 hf6 hd6
      go_upto_region 12 with (fail)
      go_upto_region 13 with (fail)
      clear hmin hsl hsz0
      refine wp_region_cl rfl (by kernel_rfl) (InvRC13 n nl bx q lg lw c1 n9 c9 n6 pn M A1 A9 hh rz pe fr sw mI f9 f6 e0 dr d9 d6' mq tq u5 u9 u45 u46 u57 u58 u59 u60 u61 u62 u63 u64 u65 u66 u67 u68 u69 u70 u71 u72 u73 u74 u75 u76 u77 u78 u79 l lb pc Z y K6 wr) ?_ ?_ ?_
      · exact ⟨none, 0, 0, rfl, fun _ => (Chg.refl _ _).drew, (fun h => by cases h), (fun h => by cases h), (fun h => by cases h)⟩
      ·
        intro D a w_1 i o ho hD hcl hpre hI
        obtain ⟨A6, c6, s12, rfl, h0, h12, h15, h19⟩ := hI
        have hi : i < 21 := by have := (List.getElem?_eq_some_iff.1 ho).1; simpa using this
        rcases (by omega : i = 0 ∨ i = 1 ∨ i = 2 ∨ i = 3 ∨ i = 4 ∨ i = 5 ∨ i = 6 ∨ i = 7 ∨ i = 8 ∨ i = 9 ∨ i = 10 ∨ i = 11 ∨ i = 12 ∨ i = 13 ∨ i = 14 ∨ i = 15 ∨ i = 16 ∨ i = 17 ∨ i = 18 ∨ i = 19 ∨ i = 20) with rfl | rfl | rfl | rfl | rfl | rfl | rfl | rfl | rfl | rfl | rfl | rfl | rfl | rfl | rfl | rfl | rfl | rfl | rfl | rfl | rfl
        · obtain rfl := Option.some.inj ho
          have d19 : D 19 = false := (hcl.not_ 19 _ rfl 2 _ rfl rfl hD)
          clear ho hpre hi hcl
          have hb := HB9.out.chg (h0 d19) (fun h => h)
          go_wp2_with (first
            | (refine wpList_load_row rfl 34 _ rfl bx rfl 34 _ (0, 0) _ hb Try.underlying34 rfl rd_size ?_)
            | fail)
          unfold AtEnd
          exact ⟨A6, c6, s12, by simp only [more, slot_true, slot_false, Nat.reduceEqDiff, ↓reduceIte, d19], fun h => h0 (by simpa [more] using h), fun h h2 => h12 (by simpa [more] using h) (by simpa [more] using h2), fun h => h15 (by simpa [more] using h), fun h => h19 (by simpa [more] using h)⟩
        · obtain rfl := Option.some.inj ho
          clear ho hpre hi hcl
          go_wp2_with fail
          unfold AtEnd
          exact ⟨A6, c6, s12, rfl, fun h => h0 (by simpa [more] using h), fun h h2 => h12 (by simpa [more] using h) (by simpa [more] using h2), fun h => h15 (by simpa [more] using h), fun h => h19 (by simpa [more] using h)⟩
        · obtain rfl := Option.some.inj ho
          have z1 := hpre ⟨1, .data⟩ (by simp) rfl
          clear ho hpre hi hcl
          have hw := HW1.out
          simp only [z1, slot_true]
          go_wp2_with fail
          rw [← HSW.out.1]
          unfold AtEnd
          exact ⟨A6, c6, s12, by simp only [more, slot_true, slot_false, Nat.reduceEqDiff, ↓reduceIte, z1], fun h => h0 (by simpa [more] using h), fun h h2 => h12 (by simpa [more] using h) (by simpa [more] using h2), fun h => h15 (by simpa [more] using h), fun h => h19 (by simpa [more] using h)⟩
        · obtain rfl := Option.some.inj ho
          clear ho hpre hi hcl
          go_wp2_with fail
          unfold AtEnd
          exact ⟨A6, c6, s12, rfl, fun h => h0 (by simpa [more] using h), fun h h2 => h12 (by simpa [more] using h) (by simpa [more] using h2), fun h => h15 (by simpa [more] using h), fun h => h19 (by simpa [more] using h)⟩
        · obtain rfl := Option.some.inj ho
          have z2 := hpre ⟨2, .data⟩ (by simp) rfl
          have z3 := hpre ⟨3, .data⟩ (by simp) rfl
          clear ho hpre hi hcl
          have hw := HW2.out
          simp only [z2, z3, slot_true]
          go_wp2_with fail
          unfold AtEnd
          exact ⟨A6, c6, s12, by simp only [more, slot_true, slot_false, Nat.reduceEqDiff, ↓reduceIte, z2, z3], fun h => h0 (by simpa [more] using h), fun h h2 => h12 (by simpa [more] using h) (by simpa [more] using h2), fun h => h15 (by simpa [more] using h), fun h => h19 (by simpa [more] using h)⟩
        · obtain rfl := Option.some.inj ho
          have z4 := hpre ⟨4, .data⟩ (by simp) rfl
          clear ho hpre hi hcl
          have hw := HW3.out
          simp only [z4, slot_true]
          go_wp2_with fail
          unfold AtEnd
          exact ⟨A6, c6, s12, by simp only [more, slot_true, slot_false, Nat.reduceEqDiff, ↓reduceIte, z4], fun h => h0 (by simpa [more] using h), fun h h2 => h12 (by simpa [more] using h) (by simpa [more] using h2), fun h => h15 (by simpa [more] using h), fun h => h19 (by simpa [more] using h)⟩
        · obtain rfl := Option.some.inj ho
          clear ho hpre hi hcl
          go_wp2_with fail
          unfold AtEnd
          exact ⟨A6, c6, s12, rfl, fun h => h0 (by simpa [more] using h), fun h h2 => h12 (by simpa [more] using h) (by simpa [more] using h2), fun h => h15 (by simpa [more] using h), fun h => h19 (by simpa [more] using h)⟩
        · obtain rfl := Option.some.inj ho
          have z5 := hpre ⟨5, .data⟩ (by simp) rfl
          have z6 := hpre ⟨6, .data⟩ (by simp) rfl
          clear ho hpre hi hcl
          have hw := HW4.out
          simp only [z5, z6, slot_true]
          go_wp2_with fail
          unfold AtEnd
          exact ⟨A6, c6, s12, by simp only [more, slot_true, slot_false, Nat.reduceEqDiff, ↓reduceIte, z5, z6], fun h => h0 (by simpa [more] using h), fun h h2 => h12 (by simpa [more] using h) (by simpa [more] using h2), fun h => h15 (by simpa [more] using h), fun h => h19 (by simpa [more] using h)⟩
        · obtain rfl := Option.some.inj ho
          clear ho hpre hi hcl
          go_wp2_with fail
          unfold AtEnd
          exact ⟨A6, c6, s12, rfl, fun h => h0 (by simpa [more] using h), fun h h2 => h12 (by simpa [more] using h) (by simpa [more] using h2), fun h => h15 (by simpa [more] using h), fun h => h19 (by simpa [more] using h)⟩
        · obtain rfl := Option.some.inj ho
          clear ho hpre hi hcl
          go_wp2_with fail
          unfold AtEnd
          exact ⟨A6, c6, s12, rfl, fun h => h0 (by simpa [more] using h), fun h h2 => h12 (by simpa [more] using h) (by simpa [more] using h2), fun h => h15 (by simpa [more] using h), fun h => h19 (by simpa [more] using h)⟩
        · obtain rfl := Option.some.inj ho
          have z9 := hpre ⟨9, .data⟩ (by simp) rfl
          clear ho hpre hi hcl
          have hpl : (⟨pc.toArray⟩ : ByteArray).size = pn := by simpa [ByteArray.size] using HPC.out.1
          simp only [z9, slot_true]
          go_wp2_with fail
          try rw [HPC.out.1]
          unfold AtEnd
          exact ⟨A6, c6, s12, by simp only [more, slot_true, slot_false, Nat.reduceEqDiff, ↓reduceIte, z9], fun h => h0 (by simpa [more] using h), fun h h2 => h12 (by simpa [more] using h) (by simpa [more] using h2), fun h => h15 (by simpa [more] using h), fun h => h19 (by simpa [more] using h)⟩
        · obtain rfl := Option.some.inj ho
          have z10 := hpre ⟨10, .data⟩ (by simp) rfl
          clear ho hpre hi hcl
          have hw : RowKit.wrap64 (512 - (pn : Int)) = (M : Int) := by rw [show (512 : Int) - (pn : Int) = (M : Int) from by have := HZQ2.out.2.2; omega]; exact IntWalk.wrap64_in _ (by have := HZQ2.out.2.2; omega)
          simp only [z10, slot_true]
          go_wp2_with fail
          try rw [show (512 : Int) - (pn : Int) = (M : Int) from by have := HZQ2.out.2.2; omega]
          unfold AtEnd
          exact ⟨A6, c6, s12, by simp only [more, slot_true, slot_false, Nat.reduceEqDiff, ↓reduceIte, z10], fun h => h0 (by simpa [more] using h), fun h h2 => h12 (by simpa [more] using h) (by simpa [more] using h2), fun h => h15 (by simpa [more] using h), fun h => h19 (by simpa [more] using h)⟩
        · obtain rfl := Option.some.inj ho
          have z11 := hpre ⟨11, .data⟩ (by simp) rfl
          have d19 : D 19 = false := (hcl.not_ 19 _ rfl 14 _ rfl rfl hD)
          clear ho hpre hi hcl
          have hmz := make_zN M (by have := HZQ2.out.2.2; omega) (M : Int) rfl w_1
          rw [← HZQ2.out.1] at hmz
          have H0 := Lib.hid (h0 d19)
          have H15 := Lib.hid h15
          clear h0 h12 h15 h19
          simp only [z11, slot_true]
          go_wp2_with fail
          unfold AtEnd
          exact ⟨A6, c6, w_1.heap.size, by simp only [more, slot_true, slot_false, Nat.reduceEqDiff, ↓reduceIte, z11, d19], fun _ => H0.out.alloc _, fun _ _ => RB.of_row (heap_alloc_new _ _) _ (by simp) (by show _ < (Array.push _ _).size; rw [Array.size_push]; omega), fun h => ⟨(H15.out (by simpa [more] using h)).1.no ((Chg.refl _ _).alloc _), (H15.out (by simpa [more] using h)).2⟩, fun h => by simp [more, d19] at h⟩
        · obtain rfl := Option.some.inj ho
          have z12 := hpre ⟨12, .data⟩ (by simp) rfl
          have d19 : D 19 = false := (hcl.not_ 19 _ rfl 15 _ rfl rfl hD)
          clear ho hpre hi hcl
          have hst := (h12 z12 d19).toStr (n := M) HZQ2.out.2.1 M Try.underlying25 Try.underlying5 Try.underlying9
          simp only [z12, slot_true]
          go_wp2_with fail
          unfold AtEnd
          exact ⟨A6, c6, s12, by simp only [more, slot_true, slot_false, Nat.reduceEqDiff, ↓reduceIte, z12, d19], fun h => h0 (by simpa [more] using h), fun h h2 => h12 (by simpa [more] using h) (by simpa [more] using h2), fun h => h15 (by simpa [more] using h), fun h => h19 (by simpa [more] using h)⟩
        · obtain rfl := Option.some.inj ho
          have z8 := hpre ⟨8, .data⟩ (by simp) rfl
          have z13 := hpre ⟨13, .data⟩ (by simp) rfl
          clear ho hpre hi hcl
          have ha := run_add_lists Try.prog pc Z (by rw [HPC.out.1, HZQ2.out.2.1]; have := HZQ2.out.2.2; omega) w_1
          rw [HY.out.2.2] at ha
          simp only [z8, z13, slot_true]
          go_wp2_with fail
          unfold AtEnd
          exact ⟨A6, c6, s12, by simp only [more, slot_true, slot_false, Nat.reduceEqDiff, ↓reduceIte, z8, z13], fun h => h0 (by simpa [more] using h), fun h h2 => h12 (by simpa [more] using h) (by simpa [more] using h2), fun h => h15 (by simpa [more] using h), fun h => h19 (by simpa [more] using h)⟩
        · obtain rfl := Option.some.inj ho
          have z0 := hpre ⟨0, .data⟩ (by simp) rfl
          have z7 := hpre ⟨7, .data⟩ (by simp) rfl
          have z14 := hpre ⟨14, .data⟩ (by simp) rfl
          have d16 : D 16 = false := (hcl.not_ 16 _ rfl 0 _ rfl rfl hD)
          have d17 : D 17 = false := (hcl.not_ 17 _ rfl 0 _ rfl rfl (hcl.not_ 16 _ rfl 0 _ rfl rfl hD))
          have d19 : D 19 = false := (hcl.not_ 19 _ rfl 1 _ rfl rfl hD)
          clear ho hpre hi hcl
          have H0 := Lib.hid (h0 d19)
          have H12 := Lib.hid h12
          clear h0 h12 h15 h19
          simp only [z0, z7, z14, slot_true]
          go_wp2_with fail
          have hcall := rwrite_any Kq n w_1 (HXQ.out.no H0.out) HLO9.out (fr + (q : Int)) y (by rw [HY.out.2.1]; decide)
          rw [HKV9.out, show strV y = .string ⟨y.toArray⟩ from rfl, ← HK6.out, ← HE0.out] at hcall
          refine hcall.mono ?_
          clear hcall
          rintro e w7 ⟨p6, rfl, hr6, hrow, hc7⟩
          obtain ⟨B6, k6, hp6⟩ := own_slice hr6.loose
          rw [← HN6.out] at hp6
          subst hp6
          rw [HKV6.out B6 k6]
          have HR6 := Lib.hid hr6
          have HROW := Lib.hid hrow
          have HCC7 := Lib.hid hc7
          clear hr6 hrow hc7
          go_wp2_with fail
          have hsz0 := H0.out.size
          unfold AtEnd
          exact ⟨B6, k6, s12, by simp only [more, slot_true, slot_false, Nat.reduceEqDiff, ↓reduceIte, z0, z7, z14, d16, d17, d19], fun _ => H0.out.trans HCC7.out (fun _ _ h => h), fun h h2 => RBchg (H12.out (by simpa [more] using h) (by simpa [more] using h2)) HCC7.out, fun _ => ⟨HR6.out, fun b hb => (HROW.out b hb).imp id (fun h => by omega)⟩, fun h => by simp [more, d19] at h⟩
        · obtain rfl := Option.some.inj ho
          have z15 := hpre ⟨15, .data⟩ (by simp) rfl
          clear ho hpre hi hcl
          go_wp2_with fail
          unfold AtEnd
          exact ⟨A6, c6, s12, by simp only [more, slot_true, slot_false, Nat.reduceEqDiff, ↓reduceIte, z15], fun h => h0 (by simpa [more] using h), fun h h2 => h12 (by simpa [more] using h) (by simpa [more] using h2), fun h => h15 (by simpa [more] using h), fun h => h19 (by simpa [more] using h)⟩
        · obtain rfl := Option.some.inj ho
          have z16 := hpre ⟨16, .data⟩ (by simp) rfl
          clear ho hpre hi hcl
          simp only [z16, slot_true]
          go_wp2_with fail
          unfold AtEnd
          exact ⟨A6, c6, s12, by simp only [more, slot_true, slot_false, Nat.reduceEqDiff, ↓reduceIte, z16], fun h => h0 (by simpa [more] using h), fun h h2 => h12 (by simpa [more] using h) (by simpa [more] using h2), fun h => h15 (by simpa [more] using h), fun h => h19 (by simpa [more] using h)⟩
        · obtain rfl := Option.some.inj ho
          have z16 := hpre ⟨16, .data⟩ (by simp) rfl
          clear ho hpre hi hcl
          simp only [z16, slot_true]
          go_wp2_with fail
          unfold AtEnd
          exact ⟨A6, c6, s12, by simp only [more, slot_true, slot_false, Nat.reduceEqDiff, ↓reduceIte, z16], fun h => h0 (by simpa [more] using h), fun h h2 => h12 (by simpa [more] using h) (by simpa [more] using h2), fun h => h15 (by simpa [more] using h), fun h => h19 (by simpa [more] using h)⟩
        · obtain rfl := Option.some.inj ho
          have z17 := hpre ⟨17, .data⟩ (by simp) rfl
          have z15 := hpre ⟨15, .chain⟩ (by simp) rfl
          have z0 : D 0 = true := (hpre ⟨0, .phase⟩ (by simp) rfl)
          clear ho hpre hi hcl
          have H0 := Lib.hid (h0 hD)
          have H2 := Lib.hid (h15 z15)
          clear h0 h12 h15 h19
          have hbb := HB9.out.chg H0.out (fun h => h)
          have HBB7 := Lib.hid hbb
          clear hbb
          simp only [z17, slot_true]
          go_wp2_with (first
            | (refine wpList_store_blk rfl 34 _ _ rfl bx _ rfl rfl 34 _ HBB7.out rfl rd_size (by simp [Value.oneCell']) ?_)
            | fail)
          unfold AtEnd
          exact ⟨A6, c6, s12, by simp only [more, slot_true, slot_false, Nat.reduceEqDiff, ↓reduceIte, z17, z15, z0], fun h => by simp [more] at h, fun _ h => by simp [more] at h, fun _ => ⟨H2.out.1.chg (S := fun b => b = bx) (Chg.setRow (S := fun b => b = bx) (Chg.refl _ _) (g := bx) (.inl rfl) _) (fun b hb e => by subst e; exact (H2.out.2 _ hb).elim (fun h => (HROWQ.out _ h).elim (fun h => by have := HNB.out _ h; omega) (fun h => by have := HBX.out.2; omega)) (fun h => by have := HB9.out.lt; omega)), H2.out.2⟩, fun _ => ⟨(Chg.mono (S := NoB) (T := fun b => b = bx) H0.out (fun _ _ h => h.elim)).setRow (g := bx) (.inl rfl) _, HBB7.out.row _⟩⟩
        · obtain rfl := Option.some.inj ho
          have z18 := hpre ⟨18, .data⟩ (by simp) rfl
          have z19 := hpre ⟨19, .chain⟩ (by simp) rfl
          clear ho hpre hi hcl
          simp only [z18, slot_true]
          go_wp2_with fail
          unfold AtEnd
          exact ⟨A6, c6, s12, by simp only [more, slot_true, slot_false, Nat.reduceEqDiff, ↓reduceIte, z18, z19], fun h => h0 (by simpa [more] using h), fun h h2 => h12 (by simpa [more] using h) (by simpa [more] using h2), fun h => h15 (by simpa [more] using h), fun h => h19 (by simpa [more] using h)⟩
      · intro D a w_1 hall hI
        obtain ⟨A6, c6, s12, rfl, h0, h12, h15, h19⟩ := hI
        have z0 := hall 0 (by decide)
        have z1 := hall 1 (by decide)
        have z2 := hall 2 (by decide)
        have z3 := hall 3 (by decide)
        have z4 := hall 4 (by decide)
        have z5 := hall 5 (by decide)
        have z6 := hall 6 (by decide)
        have z7 := hall 7 (by decide)
        have z8 := hall 8 (by decide)
        have z9 := hall 9 (by decide)
        have z10 := hall 10 (by decide)
        have z11 := hall 11 (by decide)
        have z12 := hall 12 (by decide)
        have z13 := hall 13 (by decide)
        have z14 := hall 14 (by decide)
        have z15 := hall 15 (by decide)
        have z16 := hall 16 (by decide)
        have z17 := hall 17 (by decide)
        have z18 := hall 18 (by decide)
        have z19 := hall 19 (by decide)
        have z20 := hall 20 (by decide)
        simp only [z0, z1, z2, z3, z4, z5, z6, z7, z8, z9, z10, z11, z12, z13, z14, z15, z16, z17, z18, z19, z20, slot_true]
        have HX6 := Lib.hid (h15 (hall 15 (by decide)))
        have HB6 := Lib.hid (h19 (hall 19 (by decide)))
        clear hall h0 h12 h15 h19 z0 z1 z2 z3 z4 z5 z6 z7 z8 z9 z10 z11 z12 z13 z14 z15 z16 z17 z18 z19 z20
        obtain ⟨w6, hw6⟩ : ∃ w6, w6 = w_1 := ⟨_, rfl⟩
        rw [← hw6] at HX6 HB6 ⊢
        clear hw6
        have HZ6 := Lib.hid (HZQ.out.chg HB6.out.1 (fun h => by have h2 : bx + 1 = bx := h; omega))
        have HC6 := Lib.hid (show Chg NoB w w6 from HCQ.out.trans HB6.out.1 (fun i hi e => by have e2 : i = bx := e; have := HBX.out.1; omega))
        have HROW6 := Lib.hid (show ∀ b, RowsOf (.slice A1 n c1) (.slice A6 n6 c6) b → RowsOf (.slice A1 n c1) (.slice A2 nl c2) b ∨ w1.heap.size ≤ b from fun b hb => (HX6.out.2 b hb).elim (fun h => HROWQ.out b h) (fun h => .inr (by have := HSZQ.out; omega)))
        have HXX6 := Lib.hid HX6.out.1
        have HBB6 := Lib.hid HB6.out.2
        have HKQ6 := Lib.hid (HKV6.out A6 c6)
        by_cases hz : e0 = 0
        · have HRN := Lib.hid (show runOps K (pieceOps fr l (q + 1)) = (K6, 0) from by rw [pieces_next HRUN.out, ← HY.out.1, ← HK6.out, ← HE0.out, hz])
          subst hz
          go_wp2_with fail
          go_roundw
          case rel => exact ⟨q + 1, K6, _, by have h1 := HLT.out; have h2 := HCL.out; omega, by go_num, HXX6, HROW6, Lib.hid (by have h := HKQ6.out; unfold rkV at h; injection h with h; rw [h]; exact HBB6.out), HZ6, HRN, Lib.hid (by rw [HK6.out]; have h1 := write_loose Kq (fr + (q : Int)) y; have h2 := HLQ.out; omega), HC6, by have h1 := HSZQ.out; have h2 := HB6.out.1.size; omega⟩
          case measure => have hq5 := HQ.out; have h1 := HLT.out; have h2 := HCL.out; simp [intOf]; omega
        · have hzi : ¬ e0 = 0 := hz
          have HF := Lib.hid (show commitK K l = (K6, e0) from by rw [HF1.out, pieces_stop _ HRUN.out (by have h1 := HLT.out; have h2 := HCL.out; omega) (by rw [← HY.out.1, ← HE0.out]; exact hzi), ← HY.out.1, ← HK6.out, ← HE0.out])
          clear hz
          go_wp2_with (first
            | (refine wpList_load_row rfl 34 _ rfl bx rfl 34 _ (0, 0) _ HBB6.out Try.underlying34 rfl rd_size ?_)
            | (refine wpList_store_blk rfl 34 _ _ rfl (bx + 1) _ rfl rfl 34 _ HZ6.out rfl rd_size (by simp [Value.oneCell']) ?_)
            | fail)
          try simp only [Exit.inBlock, Exit.then]
          have hbr := HZ6.out.row #[.slice A1 n c1, .slice A6 n6 c6, .int .i64 f6, .bool d6']
          have hc8 : Chg NoB w (w6.setRow (bx + 1) #[.slice A1 n c1, .slice A6 n6 c6, .int .i64 f6, .bool d6']) := HC6.out.setRow (.inr (by rw [HBX.out.1]; omega)) _
          refine bodyPost_ret (rd_ret2 rfl _ _ (bx + 1) 34 _ _ _ _ rfl hbr) rfl ⟨_, _, ?_, ?_, fun b hb => (HROW6.out b hb).imp id (fun h => by have := HC1.out.size; omega), hc8⟩
          · rw [HF.out, HKQ6.out]; rfl
          · rw [HF.out]
            refine HXX6.out.chg (S := fun b => b = bx + 1) (Chg.setRow (S := fun b => b = bx + 1) (Chg.refl _ _) (g := bx + 1) (.inl rfl) _) (fun b hb e => ?_)
            subst e
            exact (HROW6.out _ hb).elim (fun h => by have := HNB.out _ h; omega) (fun h => by have := HBX.out.2; omega)
    · have hq5 : q = cnt := by have := HCL.out; omega
      have hltI : ¬ (q : Int) * 512 < (l.length : Int) := by omega
      obtain ⟨yh, hyh⟩ : ∃ yh, yh = hdr (lg + 1) (1 - lw) l.length (crcN l) := ⟨_, rfl⟩
      have hlg1 : lg + 1 < 4294967296 := by have := HLOW.out.2.1; omega
      have HF2 := Lib.hid (show commitK K l = if syncE Kq = 0 then runOps Kq.sync [.wr 0 yh, .sync] else (Kq.sync, syncE Kq) from by
        rw [HF1.out, ← hyh, runOps_app, ← hq5, HRUN.out, if_pos rfl, runOps_three])
      obtain ⟨g1, hg1⟩ : ∃ g1 : Int, g1 = (lg : Int) + 1 := ⟨_, rfl⟩
      have HG1 := Lib.hid hg1
      have HW5 := Lib.hid (show RowKit.wrap64 ((lg : Int) + 1) = g1 from by rw [hg1]; exact IntWalk.wrap64_in _ (by omega))
      have HHD := Lib.hid (show ∀ w, Calls Try.prog 15 #[.int .i64 g1, .int .i64 sw, .string ⟨l.toArray⟩] w (fun e w' => e = .returned (.string ⟨yh.toArray⟩) ∧ Chg NoB w w') from fun w => by
        rw [hyh, hg1, HSW.out.1, show (lg : Int) + 1 = ((lg + 1 : Nat) : Int) from by omega, show 1 - (lw : Int) = ((1 - lw : Nat) : Int) from by have := HLOW.out.1; omega]
        exact rheader_any (lg + 1) (1 - lw) l hlg1 (by omega) (by omega) w)
      have HYL := Lib.hid (show yh.length = 512 from by rw [hyh]; exact hdr_len _ _ _ _)
      have HLO9 := Lib.hid (show Kq.loose.length ≤ 1000 from by have h1 := HLQ.out; have h2 := HL.out; omega)
      clear hlt hyh hg1 hlg1
      go_wp2_with (first
        | (refine wpList_load_row rfl 34 _ rfl bx rfl 34 _ (0, 0) _ HB9.out Try.underlying34 rfl rd_size ?_)
        | fail)
      have hsy := rsync_any Kq n wr HXQ.out HLO9.out
      rw [HKV9.out] at hsy
      refine hsy.mono ?_
      clear hsy
      rintro e w7 ⟨s7, p7, rfl, hr7, hrow7, hc7⟩
      obtain ⟨A7, c7, rfl⟩ := own_slice hr7.sure
      obtain ⟨A8, c8, hp8⟩ := own_slice hr7.loose
      obtain ⟨K7, hK7⟩ : ∃ K7, K7 = Kq.sync := ⟨_, rfl⟩
      rw [← hK7] at hr7 hp8 HF2 ⊢
      obtain ⟨n8, hn8⟩ : ∃ n8, n8 = K7.loose.length := ⟨_, rfl⟩
      rw [← hn8] at hp8
      subst hp8
      obtain ⟨f7, hf7⟩ : ∃ f7, f7 = K7.fuse := ⟨_, rfl⟩
      obtain ⟨d7', hd7⟩ : ∃ d7, d7 = K7.dark := ⟨_, rfl⟩
      obtain ⟨e7, he7⟩ : ∃ e7, e7 = syncE Kq := ⟨_, rfl⟩
      rw [← he7] at HF2 ⊢
      have HKV7 := Lib.hid (show rkV (.slice A7 n c7) (.slice A8 n8 c8) K7 = .agg #[.slice A7 n c7, .slice A8 n8 c8, .int .i64 f7, .bool d7'] from by rw [hf7, hd7]; rfl)
      rw [HKV7.out]
      have HLO7 := Lib.hid (show K7.loose.length ≤ 900 from by rw [hK7]; have h1 := sync_loose Kq; have h2 := HLQ.out; have h3 := HL.out; omega)
      have HR7 := Lib.hid hr7
      have HROW7a := Lib.hid hrow7
      have HZ7a := Lib.hid (HZQ.out.chg hc7 (fun h => h))
      have HB7a := Lib.hid (HB9.out.chg hc7 (fun h => h))
      have HC7a := Lib.hid (HCQ.out.trans hc7 (fun _ _ h => h))
      have HSZQ := Lib.hid (show w1.heap.size ≤ wr.heap.size ∧ wr.heap.size ≤ w7.heap.size from ⟨HSZ1.out, hc7.size⟩)
      clear hn8 hf7 hd7 he7 hr7 hrow7 hc7 hK7
      go_upto_region 17 with (first
        | (refine wpList_store_blk rfl 34 _ _ rfl bx _ rfl rfl 34 _ HB7a.out rfl rd_size (by simp [Value.oneCell']) ?_)
        | fail)
      have hb8 := HB7a.out.row #[.slice A7 n c7, .slice A8 n8 c8, .int .i64 f7, .bool d7']
      have hc8 : Chg (fun b => b = bx) w7 (w7.setRow bx #[.slice A7 n c7, .slice A8 n8 c8, .int .i64 f7, .bool d7']) := Chg.setRow (S := fun b => b = bx) (Chg.refl _ _) (g := bx) (.inl rfl) _
      generalize hw8 : w7.setRow bx #[.slice A7 n c7, .slice A8 n8 c8, .int .i64 f7, .bool d7'] = w8 at hb8 hc8 ⊢
      have HB8 := Lib.hid hb8
      have HROW8 := Lib.hid (show ∀ b, RowsOf (.slice A7 n c7) (.slice A8 n8 c8) b → RowsOf (.slice A1 n c1) (.slice A2 nl c2) b ∨ w1.heap.size ≤ b from fun b hb => (HROW7a.out b hb).elim (fun h => HROWQ.out b h) (fun h => .inr (by have := HSZQ.out; omega)))
      have HX8 := Lib.hid (HR7.out.chg hc8 (fun b hb e => by
        have e2 : b = bx := e
        subst e2
        exact (HROW8.out _ hb).elim (fun h => by have := HNB.out _ h; omega) (fun h => by have := HBX.out.2; omega)))
      have HZ8 := Lib.hid (HZ7a.out.chg hc8 (fun h => by have h2 : bx + 1 = bx := h; omega))
      have HC8 := Lib.hid (show Chg NoB w w8 from HC7a.out.trans hc8 (fun i hi e => by have e2 : i = bx := e; have := HBX.out.1; omega))
      have hsz78 : w7.heap.size ≤ w8.heap.size := hc8.size
      clear hw8 hb8 hc8
      by_cases hz7 : e7 = 0
      case neg =>
        have hzi : ¬ e7 = 0 := hz7
        have HF := Lib.hid (show commitK K l = (K7, e7) from by rw [HF2.out, if_neg hzi])
        clear hz7
        go_wp2_with (first
          | (refine wpList_load_row rfl 34 _ rfl bx rfl 34 _ (0, 0) _ HB8.out Try.underlying34 rfl rd_size ?_)
          | (refine wpList_store_blk rfl 34 _ _ rfl (bx + 1) _ rfl rfl 34 _ HZ8.out rfl rd_size (by simp [Value.oneCell']) ?_)
          | fail)
        try simp only [Exit.inBlock, Exit.then]
        have hbr := HZ8.out.row #[.slice A7 n c7, .slice A8 n8 c8, .int .i64 f7, .bool d7']
        have hc8 : Chg NoB w (w8.setRow (bx + 1) #[.slice A7 n c7, .slice A8 n8 c8, .int .i64 f7, .bool d7']) := HC8.out.setRow (.inr (by rw [HBX.out.1]; omega)) _
        refine bodyPost_ret (rd_ret2 rfl _ _ (bx + 1) 34 _ _ _ _ rfl hbr) rfl ⟨_, _, ?_, ?_, fun b hb => (HROW8.out b hb).imp id (fun h => by have := HC1.out.size; omega), hc8⟩
        · rw [HF.out, HKV7.out]; rfl
        · rw [HF.out]
          refine HX8.out.chg (S := fun b => b = bx + 1) (Chg.setRow (S := fun b => b = bx + 1) (Chg.refl _ _) (g := bx + 1) (.inl rfl) _) (fun b hb e => ?_)
          subst e
          exact (HROW8.out _ hb).elim (fun h => by have := HNB.out _ h; omega) (fun h => by have := HBX.out.2; omega)
      have HF3 := Lib.hid (show commitK K l = runOps K7 [.wr 0 yh, .sync] from by rw [HF2.out, if_pos hz7])
      subst hz7
      obtain ⟨K6, hK6⟩ : ∃ K6, K6 = K7.write 0 yh := ⟨_, rfl⟩
      obtain ⟨e0, he0⟩ : ∃ e0, e0 = writeE K7 0 yh := ⟨_, rfl⟩
      obtain ⟨n6, hn6⟩ : ∃ n6, n6 = K6.loose.length := ⟨_, rfl⟩
      obtain ⟨f6, hf6⟩ : ∃ f6, f6 = K6.fuse := ⟨_, rfl⟩
      obtain ⟨d6', hd6⟩ : ∃ d6, d6 = K6.dark := ⟨_, rfl⟩
      have HF4 := Lib.hid (show commitK K l = if e0 = 0 then (K6.sync, syncE K6) else (K6, e0) from by rw [HF3.out, runOps_two, ← hK6, ← he0])
      have HK6 := Lib.hid hK6
      have HE0 := Lib.hid he0
      have HN6 := Lib.hid hn6
      have HFD6 := Lib.hid (And.intro hf6 hd6)
      have HKV6 := Lib.hid (show ∀ B k, rkV (.slice A7 n c7) (.slice B n6 k) K6 = .agg #[.slice A7 n c7, .slice B n6 k, .int .i64 f6, .bool d6'] from fun B k => by rw [hf6, hd6]; rfl)
      have HLO6 := Lib.hid (show K6.loose.length ≤ 1000 from by rw [hK6]; have h1 := write_loose K7 0 yh; have h2 := HLO7.out; omega)
      clear hK6 he0 hn6 hf6 hd6
      have HLO8 := Lib.hid (show K7.loose.length ≤ 1000 from by have := HLO7.out; omega)
      go_upto_region 19 with (fail)
      generalize decide ((cnt : Int) * 512 < (l.length : Int)) = dq
      refine wp_region_cl rfl (by kernel_rfl) (InvRC19 n nl bx cnt lg lw c1 n9 c9 n6 c7 n8 c8 A1 A9 A7 A8 hh rz sw g1 f9 f6 f7 e0 dr dq d9 d6' d7' mq tq u5 u12 u45 u46 u47 u48 u49 u50 u51 u52 u53 u54 u55 u56 u57 u58 u59 u60 u61 u62 u63 u64 u65 u66 u67 u68 u69 u70 u71 u72 u73 u74 u75 u76 u77 u78 u79 l lb yh K6 w8) ?_ ?_ ?_
      · exact ⟨none, 0, rfl, fun _ => (Chg.refl _ _).drew, (fun h => by cases h), (fun h => by cases h)⟩
      ·
        intro D a w_1 i o ho hD hcl hpre hI
        obtain ⟨A6, c6, rfl, h0, h15, h19⟩ := hI
        have hi : i < 13 := by have := (List.getElem?_eq_some_iff.1 ho).1; simpa using this
        rcases (by omega : i = 0 ∨ i = 1 ∨ i = 2 ∨ i = 3 ∨ i = 4 ∨ i = 5 ∨ i = 6 ∨ i = 7 ∨ i = 8 ∨ i = 9 ∨ i = 10 ∨ i = 11 ∨ i = 12) with rfl | rfl | rfl | rfl | rfl | rfl | rfl | rfl | rfl | rfl | rfl | rfl | rfl
        · obtain rfl := Option.some.inj ho
          have d11 : D 11 = false := (hcl.not_ 11 _ rfl 2 _ rfl rfl hD)
          clear ho hpre hi hcl
          have hb := HB8.out.chg (h0 d11) (fun h => h)
          go_wp2_with (first
            | (refine wpList_load_row rfl 34 _ rfl bx rfl 34 _ (0, 0) _ hb Try.underlying34 rfl rd_size ?_)
            | fail)
          unfold AtEnd
          exact ⟨A6, c6, by simp only [more, slot_true, slot_false, Nat.reduceEqDiff, ↓reduceIte, d11], fun h => h0 (by simpa [more] using h), fun h => h15 (by simpa [more] using h), fun h => h19 (by simpa [more] using h)⟩
        · obtain rfl := Option.some.inj ho
          clear ho hpre hi hcl
          go_wp2_with fail
          unfold AtEnd
          exact ⟨A6, c6, rfl, fun h => h0 (by simpa [more] using h), fun h => h15 (by simpa [more] using h), fun h => h19 (by simpa [more] using h)⟩
        · obtain rfl := Option.some.inj ho
          have z1 := hpre ⟨1, .data⟩ (by simp) rfl
          clear ho hpre hi hcl
          have hw := HW5.out
          simp only [z1, slot_true]
          go_wp2_with fail
          try rw [← HG1.out]
          unfold AtEnd
          exact ⟨A6, c6, by simp only [more, slot_true, slot_false, Nat.reduceEqDiff, ↓reduceIte, z1], fun h => h0 (by simpa [more] using h), fun h => h15 (by simpa [more] using h), fun h => h19 (by simpa [more] using h)⟩
        · obtain rfl := Option.some.inj ho
          clear ho hpre hi hcl
          go_wp2_with fail
          unfold AtEnd
          exact ⟨A6, c6, rfl, fun h => h0 (by simpa [more] using h), fun h => h15 (by simpa [more] using h), fun h => h19 (by simpa [more] using h)⟩
        · obtain rfl := Option.some.inj ho
          have z3 := hpre ⟨3, .data⟩ (by simp) rfl
          clear ho hpre hi hcl
          have hw := HW1.out
          simp only [z3, slot_true]
          go_wp2_with fail
          try rw [← HSW.out.1]
          unfold AtEnd
          exact ⟨A6, c6, by simp only [more, slot_true, slot_false, Nat.reduceEqDiff, ↓reduceIte, z3], fun h => h0 (by simpa [more] using h), fun h => h15 (by simpa [more] using h), fun h => h19 (by simpa [more] using h)⟩
        · obtain rfl := Option.some.inj ho
          clear ho hpre hi hcl
          go_wp2_with fail
          unfold AtEnd
          exact ⟨A6, c6, rfl, fun h => h0 (by simpa [more] using h), fun h => h15 (by simpa [more] using h), fun h => h19 (by simpa [more] using h)⟩
        · obtain rfl := Option.some.inj ho
          have z2 := hpre ⟨2, .data⟩ (by simp) rfl
          have z4 := hpre ⟨4, .data⟩ (by simp) rfl
          have z5 := hpre ⟨5, .data⟩ (by simp) rfl
          have d7 : D 7 = false := (hcl.not_ 7 _ rfl 1 _ rfl rfl hD)
          have d11 : D 11 = false := (hcl.not_ 11 _ rfl 8 _ rfl rfl hD)
          clear ho hpre hi hcl
          have H0 := Lib.hid (h0 d11)
          clear h0 h15 h19
          simp only [z2, z4, z5, slot_true]
          go_wp2_with fail
          refine (HHD.out w_1).mono ?_
          rintro e w7 ⟨rfl, hc7⟩
          have HCC7 := Lib.hid hc7
          clear hc7
          go_wp2_with fail
          unfold AtEnd
          exact ⟨A6, c6, by simp only [more, slot_true, slot_false, Nat.reduceEqDiff, ↓reduceIte, z2, z4, z5, d7, d11], fun _ => H0.out.trans HCC7.out (fun _ _ h => h), fun h => by simp [more, d7] at h, fun h => by simp [more, d11] at h⟩
        · obtain rfl := Option.some.inj ho
          have z0 := hpre ⟨0, .data⟩ (by simp) rfl
          have z6 := hpre ⟨6, .data⟩ (by simp) rfl
          have d8 : D 8 = false := (hcl.not_ 8 _ rfl 0 _ rfl rfl hD)
          have d9 : D 9 = false := (hcl.not_ 9 _ rfl 0 _ rfl rfl (hcl.not_ 8 _ rfl 0 _ rfl rfl hD))
          have d11 : D 11 = false := (hcl.not_ 11 _ rfl 1 _ rfl rfl hD)
          clear ho hpre hi hcl
          have H0 := Lib.hid (h0 d11)
          clear h0 h15 h19
          simp only [z0, z6, slot_true]
          go_wp2_with fail
          have hcall := rwrite_any K7 n w_1 (HX8.out.no H0.out) HLO8.out 0 yh (by rw [HYL.out]; decide)
          rw [HKV7.out, show strV yh = .string ⟨yh.toArray⟩ from rfl, ← HK6.out, ← HE0.out] at hcall
          refine hcall.mono ?_
          clear hcall
          rintro e w7 ⟨p6, rfl, hr6, hrow, hc7⟩
          obtain ⟨B6, k6, hp6⟩ := own_slice hr6.loose
          rw [← HN6.out] at hp6
          subst hp6
          rw [HKV6.out B6 k6]
          have HR6 := Lib.hid hr6
          have HROW := Lib.hid hrow
          have HCC7 := Lib.hid hc7
          clear hr6 hrow hc7
          go_wp2_with fail
          have hsz0 := H0.out.size
          unfold AtEnd
          exact ⟨B6, k6, by simp only [more, slot_true, slot_false, Nat.reduceEqDiff, ↓reduceIte, z0, z6, d8, d9, d11], fun _ => H0.out.trans HCC7.out (fun _ _ h => h), fun _ => ⟨HR6.out, fun b hb => (HROW.out b hb).imp id (fun h => by omega)⟩, fun h => by simp [more, d11] at h⟩
        · obtain rfl := Option.some.inj ho
          have z7 := hpre ⟨7, .data⟩ (by simp) rfl
          clear ho hpre hi hcl
          go_wp2_with fail
          unfold AtEnd
          exact ⟨A6, c6, by simp only [more, slot_true, slot_false, Nat.reduceEqDiff, ↓reduceIte, z7], fun h => h0 (by simpa [more] using h), fun h => h15 (by simpa [more] using h), fun h => h19 (by simpa [more] using h)⟩
        · obtain rfl := Option.some.inj ho
          have z8 := hpre ⟨8, .data⟩ (by simp) rfl
          clear ho hpre hi hcl
          simp only [z8, slot_true]
          go_wp2_with fail
          unfold AtEnd
          exact ⟨A6, c6, by simp only [more, slot_true, slot_false, Nat.reduceEqDiff, ↓reduceIte, z8], fun h => h0 (by simpa [more] using h), fun h => h15 (by simpa [more] using h), fun h => h19 (by simpa [more] using h)⟩
        · obtain rfl := Option.some.inj ho
          have z8 := hpre ⟨8, .data⟩ (by simp) rfl
          clear ho hpre hi hcl
          simp only [z8, slot_true]
          go_wp2_with fail
          unfold AtEnd
          exact ⟨A6, c6, by simp only [more, slot_true, slot_false, Nat.reduceEqDiff, ↓reduceIte, z8], fun h => h0 (by simpa [more] using h), fun h => h15 (by simpa [more] using h), fun h => h19 (by simpa [more] using h)⟩
        · obtain rfl := Option.some.inj ho
          have z9 := hpre ⟨9, .data⟩ (by simp) rfl
          have z7 := hpre ⟨7, .chain⟩ (by simp) rfl
          have z0 : D 0 = true := (hpre ⟨0, .phase⟩ (by simp) rfl)
          clear ho hpre hi hcl
          have H0 := Lib.hid (h0 hD)
          have H2 := Lib.hid (h15 z7)
          clear h0 h15 h19
          have hbb := HB8.out.chg H0.out (fun h => h)
          have HBB7 := Lib.hid hbb
          clear hbb
          simp only [z9, slot_true]
          go_wp2_with (first
            | (refine wpList_store_blk rfl 34 _ _ rfl bx _ rfl rfl 34 _ HBB7.out rfl rd_size (by simp [Value.oneCell']) ?_)
            | fail)
          unfold AtEnd
          exact ⟨A6, c6, by simp only [more, slot_true, slot_false, Nat.reduceEqDiff, ↓reduceIte, z9, z7, z0], fun h => by simp [more] at h, fun _ => ⟨H2.out.1.chg (S := fun b => b = bx) (Chg.setRow (S := fun b => b = bx) (Chg.refl _ _) (g := bx) (.inl rfl) _) (fun b hb e => by subst e; exact (H2.out.2 _ hb).elim (fun h => (HROW8.out _ h).elim (fun h => by have := HNB.out _ h; omega) (fun h => by have := HBX.out.2; omega)) (fun h => by have := HB8.out.lt; omega)), H2.out.2⟩, fun _ => ⟨(Chg.mono (S := NoB) (T := fun b => b = bx) H0.out (fun _ _ h => h.elim)).setRow (g := bx) (.inl rfl) _, HBB7.out.row _⟩⟩
        · obtain rfl := Option.some.inj ho
          have z10 := hpre ⟨10, .data⟩ (by simp) rfl
          have z11 := hpre ⟨11, .chain⟩ (by simp) rfl
          clear ho hpre hi hcl
          simp only [z10, slot_true]
          go_wp2_with fail
          unfold AtEnd
          exact ⟨A6, c6, by simp only [more, slot_true, slot_false, Nat.reduceEqDiff, ↓reduceIte, z10, z11], fun h => h0 (by simpa [more] using h), fun h => h15 (by simpa [more] using h), fun h => h19 (by simpa [more] using h)⟩
      · intro D a w_1 hall hI
        obtain ⟨A6, c6, rfl, h0, h15, h19⟩ := hI
        have z0 := hall 0 (by decide)
        have z1 := hall 1 (by decide)
        have z2 := hall 2 (by decide)
        have z3 := hall 3 (by decide)
        have z4 := hall 4 (by decide)
        have z5 := hall 5 (by decide)
        have z6 := hall 6 (by decide)
        have z7 := hall 7 (by decide)
        have z8 := hall 8 (by decide)
        have z9 := hall 9 (by decide)
        have z10 := hall 10 (by decide)
        have z11 := hall 11 (by decide)
        have z12 := hall 12 (by decide)
        simp only [z0, z1, z2, z3, z4, z5, z6, z7, z8, z9, z10, z11, z12, slot_true]
        have HX6 := Lib.hid (h15 (hall 7 (by decide)))
        have HB6 := Lib.hid (h19 (hall 11 (by decide)))
        clear hall h0 h15 h19 z0 z1 z2 z3 z4 z5 z6 z7 z8 z9 z10 z11 z12
        obtain ⟨w9, hw9⟩ : ∃ w9, w9 = w_1 := ⟨_, rfl⟩
        rw [← hw9] at HX6 HB6 ⊢
        clear hw9
        have HZ9 := Lib.hid (HZ8.out.chg HB6.out.1 (fun h => by have h2 : bx + 1 = bx := h; omega))
        have HC9 := Lib.hid (show Chg NoB w w9 from HC8.out.trans HB6.out.1 (fun i hi e => by have e2 : i = bx := e; have := HBX.out.1; omega))
        have HSZ8 := Lib.hid (show w1.heap.size ≤ w8.heap.size ∧ w8.heap.size ≤ w9.heap.size from ⟨by have h1 := HSZQ.out; have h2 := hsz78; omega, HB6.out.1.size⟩)
        have HROW6 := Lib.hid (show ∀ b, RowsOf (.slice A7 n c7) (.slice A6 n6 c6) b → RowsOf (.slice A1 n c1) (.slice A2 nl c2) b ∨ w1.heap.size ≤ b from fun b hb => (HX6.out.2 b hb).elim (fun h => HROW8.out b h) (fun h => .inr (by have := HSZ8.out; omega)))
        have HXX6 := Lib.hid HX6.out.1
        have HBB6 := Lib.hid HB6.out.2
        have HKQ6 := Lib.hid (HKV6.out A6 c6)
        clear hsz78
        by_cases hz : e0 = 0
        case neg =>
          have hzi : ¬ e0 = 0 := hz
          have HF := Lib.hid (show commitK K l = (K6, e0) from by rw [HF4.out, if_neg hzi])
          clear hz
          go_wp2_with (first
            | (refine wpList_load_row rfl 34 _ rfl bx rfl 34 _ (0, 0) _ HBB6.out Try.underlying34 rfl rd_size ?_)
            | (refine wpList_store_blk rfl 34 _ _ rfl (bx + 1) _ rfl rfl 34 _ HZ9.out rfl rd_size (by simp [Value.oneCell']) ?_)
            | fail)
          try simp only [Exit.inBlock, Exit.then]
          have hbr := HZ9.out.row #[.slice A7 n c7, .slice A6 n6 c6, .int .i64 f6, .bool d6']
          have hc8 : Chg NoB w (w9.setRow (bx + 1) #[.slice A7 n c7, .slice A6 n6 c6, .int .i64 f6, .bool d6']) := HC9.out.setRow (.inr (by rw [HBX.out.1]; omega)) _
          refine bodyPost_ret (rd_ret2 rfl _ _ (bx + 1) 34 _ _ _ _ rfl hbr) rfl ⟨_, _, ?_, ?_, fun b hb => (HROW6.out b hb).imp id (fun h => by have := HC1.out.size; omega), hc8⟩
          · rw [HF.out, HKQ6.out]; rfl
          · rw [HF.out]
            refine HXX6.out.chg (S := fun b => b = bx + 1) (Chg.setRow (S := fun b => b = bx + 1) (Chg.refl _ _) (g := bx + 1) (.inl rfl) _) (fun b hb e => ?_)
            subst e
            exact (HROW6.out _ hb).elim (fun h => by have := HNB.out _ h; omega) (fun h => by have := HBX.out.2; omega)
        have HF5 := Lib.hid (show commitK K l = (K6.sync, syncE K6) from by rw [HF4.out, if_pos hz])
        subst hz
        go_wp2_with (first
          | (refine wpList_load_row rfl 34 _ rfl bx rfl 34 _ (0, 0) _ HBB6.out Try.underlying34 rfl rd_size ?_)
          | fail)
        have hsy := rsync_any K6 n w9 HXX6.out HLO6.out
        rw [HKQ6.out] at hsy
        refine hsy.mono ?_
        clear hsy
        rintro e w10 ⟨s10, p10, rfl, hr10, hrow10, hc10⟩
        obtain ⟨A10, c10, rfl⟩ := own_slice hr10.sure
        obtain ⟨A11, c11, hp11⟩ := own_slice hr10.loose
        obtain ⟨K10, hK10⟩ : ∃ K10, K10 = K6.sync := ⟨_, rfl⟩
        rw [← hK10] at hr10 hp11 HF5 ⊢
        obtain ⟨n11, hn11⟩ : ∃ n11, n11 = K10.loose.length := ⟨_, rfl⟩
        rw [← hn11] at hp11
        subst hp11
        obtain ⟨f10, hf10⟩ : ∃ f10, f10 = K10.fuse := ⟨_, rfl⟩
        obtain ⟨d10', hd10⟩ : ∃ d10, d10 = K10.dark := ⟨_, rfl⟩
        obtain ⟨e10, he10⟩ : ∃ e10, e10 = syncE K6 := ⟨_, rfl⟩
        rw [← he10] at HF5 ⊢
        have HKV10 := Lib.hid (show rkV (.slice A10 n c10) (.slice A11 n11 c11) K10 = .agg #[.slice A10 n c10, .slice A11 n11 c11, .int .i64 f10, .bool d10'] from by rw [hf10, hd10]; rfl)
        rw [HKV10.out]
        have HR10 := Lib.hid hr10
        have HROW10 := Lib.hid (show ∀ b, RowsOf (.slice A10 n c10) (.slice A11 n11 c11) b → RowsOf (.slice A1 n c1) (.slice A2 nl c2) b ∨ w1.heap.size ≤ b from fun b hb => (hrow10 b hb).elim (fun h => HROW6.out b h) (fun h => .inr (by have := HSZ8.out; omega)))
        have HZ10 := Lib.hid (HZ9.out.chg hc10 (fun h => h))
        have HC10 := Lib.hid (HC9.out.trans hc10 (fun _ _ h => h))
        clear hn11 hf10 hd10 he10 hr10 hrow10 hc10 hK10
        go_wp2_with (first
          | (refine wpList_load_row rfl 34 _ rfl bx rfl 34 _ (0, 0) _ HBB6.out Try.underlying34 rfl rd_size ?_)
          | (refine wpList_store_blk rfl 34 _ _ rfl (bx + 1) _ rfl rfl 34 _ HZ10.out rfl rd_size (by simp [Value.oneCell']) ?_)
          | fail)
        try simp only [Exit.inBlock, Exit.then]
        have hbr := HZ10.out.row #[.slice A10 n c10, .slice A11 n11 c11, .int .i64 f10, .bool d10']
        have hc8 : Chg NoB w (w10.setRow (bx + 1) #[.slice A10 n c10, .slice A11 n11 c11, .int .i64 f10, .bool d10']) := HC10.out.setRow (.inr (by rw [HBX.out.1]; omega)) _
        refine bodyPost_ret (rd_ret2 rfl _ _ (bx + 1) 34 _ _ _ _ rfl hbr) rfl ⟨_, _, ?_, ?_, fun b hb => (HROW10.out b hb).imp id (fun h => by have := HC1.out.size; omega), hc8⟩
        · rw [HF5.out, HKV10.out]; rfl
        · rw [HF5.out]
          refine HR10.out.chg (S := fun b => b = bx + 1) (Chg.setRow (S := fun b => b = bx + 1) (Chg.refl _ _) (g := bx + 1) (.inl rfl) _) (fun b hb e => ?_)
          subst e
          exact (HROW10.out _ hb).elim (fun h => by have := HNB.out _ h; omega) (fun h => by have := HBX.out.2; omega)
end Go.Proofs.Ytlhfhhbafhnbkaa
namespace Go.Proofs.Ytlhfhhbafhnbkaa
open Go.RowKit
set_option linter.unusedSimpArgs false
set_option linter.unusedVariables false
/-- a row that begins with these bytes, marked, if at all, behind them -/
def RowM (w : World) (g : Nat) (l : List UInt8) : Prop := ∃ (t : Array Value) (fr : Nat × Nat), w.heap[g]? = some (.cells ((l.map bv).toArray ++ t) 5 fr) ∧ (fr = (0, 0) ∨ l.length ≤ fr.1)
theorem RowM.lt {w : World} {g : Nat} {l : List UInt8} (h : RowM w g l) : g < w.heap.size := by
  obtain ⟨t, fr, h1, _⟩ := h; exact lt_of_heap h1
theorem RowM.cell {w : World} {g : Nat} {l : List UInt8} (h : RowM w g l) (j : Nat) (hj : j < l.length) : w.cell? ⟨g, j, none⟩ = some (.int .u8 ((l[j]'hj).toNat : Int)) ∧ w.frozen? ⟨g, j, none⟩ = false := by
  obtain ⟨t, fr, h1, h2⟩ := h
  refine ⟨?_, ?_⟩
  · simp [World.cell?, h1, Array.getElem?_append, hj, bv]
  · rcases h2 with rfl | h2
    · simp [World.frozen?, h1]
    · simp [World.frozen?, h1]; omega
theorem RowM.rb {w : World} {g : Nat} {l : List UInt8} (h : RowM w g l) : RB w w.heap.size (some ⟨g, 0, none⟩) l := by
  refine ⟨by simp, fun _ => ⟨_, rfl, h.lt, fun j u hu => ?_⟩⟩
  have ha : (⟨g, 0, none⟩ : Addr).add j = ⟨g, j, none⟩ := by unfold Addr.add; split <;> simp_all
  have hj : j < l.length := by
    rcases Nat.lt_or_ge j l.length with h | h
    · exact h
    · rw [List.getElem?_eq_none (by simpa using h)] at hu; cases hu
  rw [ha, (h.cell j hj).1, ← hu]
  simp [bv, hj]
theorem RowM.chg {S : Nat → Prop} {w w' : World} {g : Nat} {l : List UInt8} (h : RowM w g l) (hc : Chg S w w') (hS : ¬ S g) : RowM w' g l := by
  obtain ⟨t, fr, h1, h2⟩ := h
  exact ⟨t, fr, (hc.block g (lt_of_heap h1) hS).trans h1, h2⟩
theorem RowM.set_ {w : World} {g : Nat} {l : List UInt8} (h : RowM w g l) (j : Nat) (hj : j < l.length) (b : UInt8) : RowM (w.setCell ⟨g, j, none⟩ (.int .u8 (b.toNat : Int))) g (l.set j b) := by
  obtain ⟨t, fr, h1, h2⟩ := h
  refine ⟨t, fr, ?_, by rw [List.length_set]; exact h2⟩
  simp only [World.setCell, Array.getElem?_modify, h1]
  simp [List.map_set, bv, Array.setIfInBounds_append, hj]
theorem str_rowm (w : World) (l : List UInt8) : ∃ c w', (convert 9 25 (.string ⟨l.toArray⟩)).run Try.prog w = .ok (.slice (some ⟨w.heap.size, 0, none⟩) l.length c) w' ∧ RowM w' w.heap.size l ∧ Chg NoB w w' := by
  refine ⟨_, _, Lib.run_convert_string_bytes w 9 25 5 ⟨l.toArray⟩ Try.underlying9 Try.underlying25 Try.underlying5, ?_, ⟨rfl, rfl, rfl, ?_, fun k hk _ => Lib.bytesWorld_at_old _ _ _ _ hk⟩⟩
  · have e : Lib.bytesCells w 5 ⟨l.toArray⟩ = (l.map bv).toArray ++ Array.replicate (grownCap w (⟨l.toArray⟩ : ByteArray).size 0 5 - (⟨l.toArray⟩ : ByteArray).size) (.int .u8 0) := by
      unfold Lib.bytesCells
      congr 1
      simp [bv]
      try rfl
    have hs : l.length ≤ (Lib.bytesCells w 5 ⟨l.toArray⟩).size := by rw [e]; simp
    exact ⟨_, _, by rw [Lib.bytesWorld_at_new, ← e], .inr hs⟩
  · rw [Lib.bytesWorld_size]; omega
def actV (x : ActV) : Value := .agg #[.int .i64 x.kind, .slice x.ba x.bn x.bc, .int .i64 x.i, .int .i64 x.long, .int .u8 (x.c.toNat : Int), .slice x.ka x.kn x.kc]
/-- what a call on both disks leaves -/
def HWPost (B : Nat) (W : World) (g : Nat) (F : Nat → Prop) (s p : Value) (n m : Nat) (e : Ending) (w' : World) : Prop :=
  ∃ F' s' p' K', e = .returned (rkV s' p' K') ∧ BK B w' g F' s' p' K' n m ∧ (∀ b, RowsOf s' p' b → RowsOf s p b ∨ W.heap.size ≤ b) ∧ Chg F W w' ∧ ∀ i, F' i → F i ∨ W.heap.size ≤ i

set_option maxRecDepth 100000 in
set_option maxHeartbeats 8000000 in
theorem lwrite_any {B : Nat} {W : World} {g : Nat} {F : Nat → Prop} {s p : Value} {K : Dk} {n m : Nat} (hB : B ≤ W.heap.size) (hJ : BK B W g F s p K n m) (hm : m ≤ 800) (hn : n ≤ 100) (x : ActV) (hxi : I64r x.i) (hxl : I64r x.long) :
    Calls Try.prog 34 #[.pointer (some ⟨g, 0, none⟩), rkV s p K, actV x] W (HWPost B W g F s p n (m + 1)) := by
  obtain ⟨A1, c1, hs⟩ := own_slice hJ.rk.sure
  obtain ⟨nl, hnl⟩ : ∃ nl, nl = K.loose.length := ⟨_, rfl⟩
  obtain ⟨A2, c2, hp⟩ := own_slice hJ.rk.loose
  rw [← hnl] at hp
  subst hs hp
  have HNUM := Lib.hid hJ.rk.num
  have hn0 := hJ.rk.n0
  have HLO := Lib.hid (show K.loose.length ≤ 800 from Nat.le_trans hJ.ok.loose hm)
  obtain ⟨fu, hfu⟩ : ∃ fu, fu = K.fuse := ⟨_, rfl⟩
  obtain ⟨da, hda⟩ : ∃ da, da = K.dark := ⟨_, rfl⟩
  have HDA := Lib.hid hda
  have HRK := Lib.hid (show rkV (.slice A1 n c1) (.slice A2 nl c2) K = .agg #[.slice A1 n c1, .slice A2 nl c2, .int .i64 fu, .bool da] from by rw [hfu, hda]; rfl)
  rw [HRK.out]
  obtain ⟨xk, xa, xn, xc, xl, xi, xg, xb, ka, kn, kc, ks⟩ := x
  unfold actV
  dsimp only at hxi hxl ⊢
  obtain ⟨wA, hwA⟩ : ∃ wA, wA = ((W.alloc (.cells #[.slice A1 n c1, .slice A2 nl c2, .int .i64 fu, .bool da] 34)).alloc (.cells #[.int .i64 xk, .slice xa xn xc, .int .i64 xi, .int .i64 xg, .int .u8 (xb.toNat : Int), .slice ka kn kc] 68)).alloc (.cells #[.slice none 0 0, .slice none 0 0, .int .i64 0, .bool false] 34) := ⟨_, rfl⟩
  have HCA := Lib.hid (show Chg NoB W wA from by rw [hwA]; exact (((Chg.refl _ _).alloc _).alloc _).alloc _)
  obtain ⟨bx, hbx⟩ : ∃ bx, bx = W.heap.size := ⟨_, rfl⟩
  have HMA := Lib.hid (show Blk wA bx 34 #[.slice A1 n c1, .slice A2 nl c2, .int .i64 fu, .bool da] from by rw [hwA, hbx]; exact ((Blk.new W _ _).alloc _).alloc _)
  have HAA := Lib.hid (show Blk wA (bx + 1) 68 #[.int .i64 xk, .slice xa xn xc, .int .i64 xi, .int .i64 xg, .int .u8 (xb.toNat : Int), .slice ka kn kc] from by rw [hwA, hbx]; simpa using (Blk.new (W.alloc (.cells #[.slice A1 n c1, .slice A2 nl c2, .int .i64 fu, .bool da] 34)) 68 #[.int .i64 xk, .slice xa xn xc, .int .i64 xi, .int .i64 xg, .int .u8 (xb.toNat : Int), .slice ka kn kc]).alloc _)
  have HZA := Lib.hid (show Blk wA (bx + 1 + 1) 34 #[.slice none 0 0, .slice none 0 0, .int .i64 0, .bool false] from by rw [hwA, hbx]; simpa using Blk.new ((W.alloc (.cells #[.slice A1 n c1, .slice A2 nl c2, .int .i64 fu, .bool da] 34)).alloc (.cells #[.int .i64 xk, .slice xa xn xc, .int .i64 xi, .int .i64 xg, .int .u8 (xb.toNat : Int), .slice ka kn kc] 68)) 34 #[.slice none 0 0, .slice none 0 0, .int .i64 0, .bool false])
  have HBX := Lib.hid (show bx = W.heap.size ∧ bx + 2 < wA.heap.size from ⟨hbx, HZA.out.lt⟩)
  have HNB := Lib.hid (show (∀ b, RowsOf (.slice A1 n c1) (.slice A2 nl c2) b → b < bx) ∧ (∀ b, F b → b < bx) from ⟨fun b hb => by rw [hbx]; exact hJ.rk.lt b hb, fun b hb => by rw [hbx]; exact (hJ.di.rng b hb).2⟩)
  have hbs : W.heap.size + 1 = bx + 1 := by rw [hbx]
  have HB := Lib.hid hB
  have HJ := Lib.hid hJ
  have HM := Lib.hid hm
  have HXI := Lib.hid (And.intro hxi hxl)
  have HN100 := Lib.hid hn
  have HNL := Lib.hid hnl
  clear hfu hda hJ hnl hm hB hxi hxl hn
  go_enter Try.func34, Try.ntmps34
  go_upto_region 1 with (fail)
  rw [← hwA, ← hbx]
  clear hwA hbx hbs
  have k0 := HMA.out.cell 0
  have k2 := HAA.out.cell 2
  obtain ⟨ui, hui⟩ : ∃ ui, ui = IntKind.u64.wrap xi := ⟨_, rfl⟩
  have hu0 : 0 ≤ ui := by rw [hui]; simp [IntKind.wrap, IntKind.bits, IntKind.signed]; omega
  have hwu := hui.symm
  have hwn : IntKind.u64.wrap (n : Int) = (n : Int) := by have := HN100.out; simp [IntKind.wrap, IntKind.bits, IntKind.signed]; omega
  obtain ⟨i0, hi0⟩ : ∃ i0 : Nat, (i0 : Int) = ui % (n : Int) := ⟨(ui % (n : Int)).toNat, Int.toNat_of_nonneg (Int.emod_nonneg _ (by omega))⟩
  have hrem : Int.tmod ui (n : Int) = (i0 : Int) := by rw [hi0]; exact Int.tmod_eq_emod_of_nonneg hu0
  have hi1 : i0 < n := by have := Int.emod_lt_of_pos ui (show (0 : Int) < (n : Int) from by omega); omega
  have hrem2 := hi0.symm
  have hn00 : ((n : Int) == 0) = false := beq_eq_false_iff_ne.2 (by omega)
  have hw3 : RowKit.wrap64 (i0 : Int) = (i0 : Int) := IntWalk.wrap64_in _ (by have := HN100.out; omega)
  have HI := Lib.hid hi1
  clear hui hi0 hi1 hu0
  go_upto_region 2 with (fail)
  clear k0
  go_upto_region 3 with (fail)
  rw [hw3]
  clear hwu hwn hrem hrem2 hn00 hw3 k2
  go_wp2_with (first
    | (refine wpList_load_row rfl 34 _ rfl bx rfl 34 _ (0, 0) _ HMA.out Try.underlying34 rfl rd_size ?_)
    | fail)
  have hrk := rread_K K n wA (HJ.out.rk.no HCA.out) (by have := HLO.out; omega) HJ.out.ok.now (i0 : Int)
  rw [HRK.out] at hrk
  refine hrk.mono ?_
  clear hrk
  cases da with
  | true =>
    rw [show readE K (i0 : Int) = 6 from by unfold readE; rw [if_neg (by rw [HNUM.out]; have := HI.out; omega), if_pos HDA.out.symm], if_neg (by decide)]
    rintro e w2 ⟨rfl, hc2⟩
    have HM2 := Lib.hid (HMA.out.chg hc2 (fun h => h))
    have HZ2 := Lib.hid (HZA.out.chg hc2 (fun h => h))
    have HC2 := Lib.hid (HCA.out.trans hc2 (fun _ _ h => h))
    clear hc2
    rw [show strV [] = .string ⟨#[]⟩ from rfl]
    go_wp2_with (first
      | (refine wpList_load_row rfl 34 _ rfl bx rfl 34 _ (0, 0) _ HM2.out Try.underlying34 rfl rd_size ?_)
      | (refine wpList_store_blk rfl 34 _ _ rfl (bx + 1 + 1) _ rfl rfl 34 _ HZ2.out rfl rd_size (by simp [Value.oneCell']) ?_)
      | fail)
    try simp only [Exit.inBlock, Exit.then]
    have hbr := HZ2.out.row #[.slice A1 n c1, .slice A2 nl c2, .int .i64 fu, .bool true]
    have hc8 : Chg NoB W (w2.setRow (bx + 1 + 1) #[.slice A1 n c1, .slice A2 nl c2, .int .i64 fu, .bool true]) := HC2.out.setRow (.inr (by rw [HBX.out.1]; omega)) _
    refine bodyPost_ret (rd_ret1 rfl _ _ (bx + 1 + 1) 34 _ _ _ _ rfl hbr) rfl ⟨F, _, _, K, by rw [HRK.out], ?_, fun b h => .inl h, hc8.mono (fun _ _ h => h.elim), fun i h => .inl h⟩
    have hbk := HJ.out.no hc8
    exact { hbk with ok := hbk.ok.more (by omega) }
  | false =>
    rw [show readE K (i0 : Int) = 0 from by unfold readE; rw [if_neg (by rw [HNUM.out]; have := HI.out; omega), if_neg (by rw [← HDA.out]; decide)], if_pos rfl]
    rintro e w2 ⟨rfl, hc2⟩
    have HM2 := Lib.hid (HMA.out.chg hc2 (fun h => h))
    have HA2 := Lib.hid (HAA.out.chg hc2 (fun h => h))
    have HZ2 := Lib.hid (HZA.out.chg hc2 (fun h => h))
    have HC2 := Lib.hid (HCA.out.trans hc2 (fun _ _ h => h))
    have HSZ2 := Lib.hid hc2.size
    obtain ⟨l0, hl0⟩ : ∃ l0, l0 = K.now (i0 : Int) := ⟨_, rfl⟩
    have hll : l0.length = 512 := by rw [hl0, ← HJ.out.ok.now]; exact settle_len (f := K.sure) _ _ HJ.out.ok.s5 HJ.out.ok.l5 _
    rw [← hl0]
    unfold strV
    obtain ⟨cb, w3, hcv, hrm, hc3⟩ := str_rowm w2 l0
    obtain ⟨gb, hgb⟩ : ∃ gb, gb = w2.heap.size := ⟨_, rfl⟩
    rw [← hgb] at hcv hrm
    rw [hll] at hcv
    have HGB := Lib.hid (show wA.heap.size ≤ gb ∧ gb < w3.heap.size from ⟨by rw [hgb]; exact HSZ2.out, hrm.lt⟩)
    have HLL := Lib.hid hll
    have HRM := Lib.hid hrm
    have HM3 := Lib.hid (HM2.out.chg hc3 (fun h => h))
    have HA3 := Lib.hid (HA2.out.chg hc3 (fun h => h))
    have HZ3 := Lib.hid (HZ2.out.chg hc3 (fun h => h))
    have HC3 := Lib.hid (HC2.out.trans hc3 (fun _ _ h => h))
    clear hc2 hl0 hll hgb hrm hc3
    go_upto_region 7 with (fail)
    clear hcv
    go_upto_if 38 with (fail)
    go_cut [] from 38 to 64 (fun wx => ∃ y : List UInt8, RowKit.Hid (y.length = 512) ∧ RowKit.Hid (RowM wx gb y) ∧ RowKit.Hid (Chg (fun b => b = gb) w3 wx))
    case first =>
      by_cases hz : i0 = 0
      · have hzi : (i0 : Int) = 0 := by omega
        obtain ⟨ug, hug⟩ : ∃ ug, ug = IntKind.u64.wrap xg := ⟨_, rfl⟩
        have hu0 : 0 ≤ ug := by rw [hug]; simp [IntKind.wrap, IntKind.bits, IntKind.signed]; omega
        have hwu := hug.symm
        obtain ⟨k0, hk0⟩ : ∃ k0 : Nat, (k0 : Int) = ug % 40 := ⟨(ug % 40).toNat, Int.toNat_of_nonneg (Int.emod_nonneg _ (by decide))⟩
        have hrem : Int.tmod ug 40 = (k0 : Int) := by rw [hk0]; exact Int.tmod_eq_emod_of_nonneg hu0
        have hk1 : k0 < 40 := by omega
        have hrem2 := hk0.symm
        have hw3 : RowKit.wrap64 (k0 : Int) = (k0 : Int) := IntWalk.wrap64_in _ (by omega)
        have HK := Lib.hid hk1
        have a3 := HA3.out.cell 3
        clear hug hk0 hk1 hu0 hz
        go_upto_region 9 with (fail)
        try rw [hw3]
        clear hwu hrem hrem2 hw3 a3 hzi
        obtain ⟨b0, hb0⟩ : ∃ b0 : UInt8, b0 = l0[k0]'(by rw [HLL.out]; have := HK.out; omega) := ⟨_, rfl⟩
        have hcb := HRM.out.cell k0 (by rw [HLL.out]; have := HK.out; omega)
        rw [← hb0] at hcb
        have a4 := HA3.out.cell 4
        have c1' := hcb.1
        have hadd : IntKind.u8.wrap ((b0.toNat : Int) + (xb.toNat : Int)) = ((b0 + xb).toNat : Int) := by
          rw [UInt8.toNat_add]
          simp [IntKind.wrap, IntKind.bits, IntKind.signed]
        have hk5 : (k0 : Int) < 512 := by have := HK.out; omega
        have HFR := Lib.hid hcb.2
        clear hcb hb0
        go_still_tail 10, (by kernel_rfl)
        change wpList _ _ _ _ _ w3.drew
        have HRM4 := Lib.hid (show RowM w3.drew gb l0 from HRM.out)
        have HC34 := Lib.hid (show Chg (fun b => b = gb) w3 w3.drew from (Chg.refl _ _).drew)
        generalize hwd : w3.drew = wd at HRM4 HC34 ⊢
        clear hwd c1' a4
        have hcb := HRM4.out.cell k0 (by rw [HLL.out]; have := HK.out; omega)
        have c1' := hcb.1
        have c2' := hcb.2
        clear hcb
        go_wp2_with fail
        go_meet
        case rel => exact ⟨l0.set k0 (b0 + xb), Lib.hid (by rw [List.length_set]; exact HLL.out), Lib.hid (HRM4.out.set_ k0 (by rw [HLL.out]; have := HK.out; omega) (b0 + xb)), Lib.hid (HC34.out.setCell (.inl rfl) _)⟩
      · have hzi : ¬ (i0 : Int) = 0 := by omega
        clear hz
        go_wp2_with fail
        go_loopw [13] (fun i wr => ∃ (j : Nat) (y : List UInt8), j ≤ 512 ∧ i = .int .i64 (j : Int) ∧ RowKit.Hid (y.length = 512) ∧ RowKit.Hid (RowM wr gb y) ∧ RowKit.Hid (Chg (fun b => b = gb) w3 wr)) (fun i _ => 512 - (intOf i).toNat)
        case atStart => exact ⟨0, l0, by decide, rfl, HLL, HRM, Lib.hid (Chg.refl _ _)⟩
        case round =>
          obtain ⟨j, y, hj, rfl, HYL, HRY, HCH⟩ := hrel
          by_cases hlt : j < 512
          · have hltI : (j : Int) < 512 := by omega
            have HLT := Lib.hid hlt
            have a4 := (HA3.out.chg HCH.out (fun h => by have h2 : bx + 1 = gb := h; have := HGB.out; have := HBX.out; omega)).cell 4
            have hcb := HRY.out.cell j (by rw [HYL.out]; exact hlt)
            have c1' := hcb.1
            have c2' := hcb.2
            clear hcb
            go_wp2_with fail
            go_roundw
            case rel => exact ⟨j + 1, y.set j xb, by omega, by go_num, Lib.hid (by rw [List.length_set]; exact HYL.out), Lib.hid (HRY.out.set_ j (by rw [HYL.out]; exact hlt) xb), Lib.hid (HCH.out.setCell (.inl rfl) _)⟩
            case measure => simp [intOf]; omega
          · have hltI : ¬ (j : Int) < 512 := by omega
            go_wp2_with fail
            go_meet
            case rel => exact ⟨y, HYL, HRY, HCH⟩
    case rest =>
      obtain ⟨y, HYL, HRY, HCH⟩ := hcut
      obtain ⟨w4, hw4⟩ : ∃ w4, w4 = wc := ⟨_, rfl⟩
      rw [← hw4] at HRY HCH ⊢
      clear hw4
      have HNG := Lib.hid (show gb ≠ bx ∧ gb ≠ bx + 1 + 1 from ⟨fun e => by have h1 := HGB.out; have h2 := HBX.out; omega, fun e => by have h1 := HGB.out; have h2 := HBX.out; omega⟩)
      have HM4 := Lib.hid (HM3.out.chg HCH.out (fun h => HNG.out.1 (Eq.symm h)))
      have HZ4 := Lib.hid (HZ3.out.chg HCH.out (fun h => HNG.out.2 (Eq.symm h)))
      have HC4 := Lib.hid (show Chg NoB W w4 from HC3.out.trans HCH.out (fun i hi e => by have e2 : i = gb := e; have h1 := HGB.out; have h2 := HCA.out.size; omega))
      have hst := HRY.out.rb.toStr (n := 512) HYL.out cb Try.underlying25 Try.underlying5 Try.underlying9
      go_wp2_with (first
        | (refine wpList_load_row rfl 34 _ rfl bx rfl 34 _ (0, 0) _ HM4.out Try.underlying34 rfl rd_size ?_)
        | fail)
      have hcall := rwrite_any K n w4 (HJ.out.rk.no HC4.out) (by have := HLO.out; omega) (i0 : Int) y (by rw [HYL.out]; decide)
      rw [HRK.out, show strV y = .string ⟨y.toArray⟩ from rfl] at hcall
      refine hcall.mono ?_
      clear hcall hst
      rintro e w6 ⟨p6, rfl, hr6, hw6, hc6⟩
      obtain ⟨K6, hK6⟩ : ∃ K6, K6 = K.write (i0 : Int) y := ⟨_, rfl⟩
      obtain ⟨e0, he0⟩ : ∃ e0, e0 = writeE K (i0 : Int) y := ⟨_, rfl⟩
      have HOK := Lib.hid (show KOk K6 (m + 1) from by rw [hK6]; exact HJ.out.ok.write_ _ _)
      rw [← hK6] at hr6 ⊢
      rw [← he0]
      have HK6 := Lib.hid hK6
      have HE0 := Lib.hid he0
      obtain ⟨n6, hn6⟩ : ∃ n6, n6 = K6.loose.length := ⟨_, rfl⟩
      obtain ⟨A6, c6, hp6⟩ := own_slice hr6.loose
      rw [← hn6] at hp6
      subst hp6
      obtain ⟨f6, hf6⟩ : ∃ f6, f6 = K6.fuse := ⟨_, rfl⟩
      obtain ⟨d6, hd6⟩ : ∃ d6, d6 = K6.dark := ⟨_, rfl⟩
      have HRK6 := Lib.hid (show rkV (.slice A1 n c1) (.slice A6 n6 c6) K6 = .agg #[.slice A1 n c1, .slice A6 n6 c6, .int .i64 f6, .bool d6] from by rw [hf6, hd6]; rfl)
      rw [HRK6.out]
      have HR6 := Lib.hid hr6
      have HW6 := Lib.hid hw6
      have HC6 := Lib.hid hc6
      have HRY6 := Lib.hid (HRY.out.chg hc6 (fun h => h))
      have HZ6 := Lib.hid (HZ4.out.chg hc6 (fun h => h))
      have HC06 := Lib.hid (HC4.out.trans hc6 (fun _ _ h => h))
      clear hn6 hf6 hd6 hr6 hw6 hc6 hK6 he0
      go_upto_region 15 with (first
        | (refine wpList_store_blk rfl 34 _ _ rfl w6.heap.size _ rfl rfl 34 _ (Blk.new w6 _ _) rfl rd_size (by simp [Value.oneCell']) ?_)
        | fail)
      have hb10 := (Blk.new w6 34 #[.slice none 0 0, .slice none 0 0, .int .i64 0, .bool false]).row #[.slice A1 n c1, .slice A6 n6 c6, .int .i64 f6, .bool d6]
      have hc7 : Chg NoB w6 ((w6.alloc (.cells #[.slice none 0 0, .slice none 0 0, .int .i64 0, .bool false] 34)).setRow w6.heap.size #[.slice A1 n c1, .slice A6 n6 c6, .int .i64 f6, .bool d6]) := ((Chg.refl NoB w6).alloc _).setRow (.inr (Nat.le_refl _)) _
      generalize hw7 : (w6.alloc (.cells #[.slice none 0 0, .slice none 0 0, .int .i64 0, .bool false] 34)).setRow w6.heap.size #[.slice A1 n c1, .slice A6 n6 c6, .int .i64 f6, .bool d6] = w7 at hb10 hc7 ⊢
      obtain ⟨b6, hb6⟩ : ∃ b6, b6 = w6.heap.size := ⟨_, rfl⟩
      rw [← hb6] at hb10 ⊢
      have HB10 := Lib.hid hb10
      have HRY7 := Lib.hid (HRY6.out.chg hc7 (fun h => h)).rb
      have HZ7 := Lib.hid (HZ6.out.chg hc7 (fun h => h))
      have HC07 := Lib.hid (HC06.out.trans hc7 (fun _ _ h => h))
      have HR7 := Lib.hid (HR6.out.no hc7)
      have HLT7 := Lib.hid (show wA.heap.size ≤ b6 ∧ W.heap.size ≤ w4.heap.size from ⟨by rw [hb6]; have h1 := HSZ2.out; have h2 := HGB.out; have h3 := HCH.out.size; have h4 := HC6.out.size; omega, HC4.out.size⟩)
      clear hw7 hb10 hc7 hb6
      go_wp2_with fail
      refine ((HJ.out.no HC07.out).di.write_ (Nat.le_trans HB.out HC07.out.size) (i0 : Int) cb HYL.out HRY7.out (fun ad e => by cases e; rfl) (by have := HLO.out; omega)).mono ?_
      rintro e w8 ⟨rfl, hp8⟩
      rw [← HK6.out] at hp8
      obtain ⟨F8, hbk8, hc8, hF8⟩ := HJ.out.next HR7.out (fun b hb => (HW6.out b hb).imp id (fun h => by have := HLT7.out; omega)) HC07.out.size hp8 HOK.out
      have HBK8 := Lib.hid hbk8
      have HF8 := Lib.hid hF8
      have HX8 := Lib.hid (HB10.out.chg hc8 (fun h => by have h1 := HNB.out.2 _ h; have h2 := HLT7.out; have h3 := HBX.out; omega))
      have HZ8 := Lib.hid (HZ7.out.chg hc8 (fun h => by have h1 := HNB.out.2 _ h; omega))
      have HC08 := Lib.hid (Chg.trans (S := F) (T := F) (HC07.out.mono (fun _ _ h => h.elim)) hc8 (fun _ _ h => h))
      clear hp8 hbk8 hc8 hF8
      go_wp2_with (first
        | (refine wpList_load_row rfl 34 _ rfl b6 rfl 34 _ (0, 0) _ HX8.out Try.underlying34 rfl rd_size ?_)
        | (refine wpList_store_blk rfl 34 _ _ rfl (bx + 1 + 1) _ rfl rfl 34 _ HZ8.out rfl rd_size (by simp [Value.oneCell']) ?_)
        | fail)
      try simp only [Exit.inBlock, Exit.then]
      have hbr := HZ8.out.row #[.slice A1 n c1, .slice A6 n6 c6, .int .i64 f6, .bool d6]
      have hc9 : Chg (fun b => b = bx + 1 + 1) w8 (w8.setRow (bx + 1 + 1) #[.slice A1 n c1, .slice A6 n6 c6, .int .i64 f6, .bool d6]) := Chg.setRow (S := fun b => b = bx + 1 + 1) (Chg.refl _ _) (g := bx + 1 + 1) (.inl rfl) _
      refine bodyPost_ret (rd_ret1 rfl _ _ (bx + 1 + 1) 34 _ _ _ _ rfl hbr) rfl ⟨F8, _, _, K6, by rw [HRK6.out], HBK8.out.chg hc9 (fun i hi e => ?_) (fun i hi e => ?_), fun b hb => (HW6.out b hb).imp id (fun h => by have := HLT7.out; omega), HC08.out.trans hc9 (fun i hi e => by have e2 : i = bx + 1 + 1 := e; have := HBX.out; omega), fun i hi => (HF8.out i hi).imp id (fun h => by have := HC07.out.size; omega)⟩
      · have e2 : i = bx + 1 + 1 := e
        exact (HF8.out i hi).elim (fun h => by have := HNB.out.2 _ h; omega) (fun h => by have h2 := HZ7.out.lt; omega)
      · have e2 : i = bx + 1 + 1 := e
        exact (HW6.out i hi).elim (fun h => by have := HNB.out.1 _ h; omega) (fun h => by have h1 := HZ4.out.lt; omega)
end Go.Proofs.Ytlhfhhbafhnbkaa
namespace Go.Proofs.Ytlhfhhbafhnbkaa
open Go.RowKit
set_option linter.unusedSimpArgs false
set_option linter.unusedVariables false
theorem RB.chgA {S : Nat → Prop} {w w' : World} {B : Nat} {A : Option Addr} {l : List UInt8} (h : RB w B A l) (hc : Chg S w w') (hS : ∀ ad, A = some ad → ¬ S ad.block) : RB w' B A l := by
  refine ⟨h.1, fun hn => ?_⟩
  obtain ⟨ad, hA, hb, hcell⟩ := h.2 hn
  refine ⟨ad, hA, hb, fun j u hu => ?_⟩
  have h1 := hcell j u hu
  have hlt := block_lt_of_cell h1
  rw [block_of_add] at hlt
  rw [World.cell?_of_block (w := w) (by rw [block_of_add]; exact hc.block _ hlt (hS _ hA))]
  exact h1
theorem KOk.ops : ∀ (ops : List Op1) {K : Dk} {m : Nat}, KOk K m → KOk (runOps K ops).1 (m + ops.length)
  | [], K, m, h => h
  | o :: r, K, m, h => by
    have h1 : KOk (o.run K) (m + 1) := by
      cases o with
      | sync => exact h.sync_.more (by omega)
      | wr i l => exact h.write_ i l
    by_cases he : o.err K = 0
    · rw [runOps_ok he]
      exact (KOk.ops r h1).more (by simp; omega)
    · rw [runOps_no he]
      exact h1.more (by simp)
theorem KOk.format_ {K : Dk} {m : Nat} (h : KOk K m) : KOk (formatK K).1 (m + 60) := by
  unfold formatK
  split
  · exact h.more (by omega)
  · exact (KOk.ops _ h).more (by simp)
theorem KOk.commit_ {K : Dk} {m : Nat} (h : KOk K m) (hn : K.n ≤ 24) (b : List UInt8) : KOk (commitK K b).1 (m + 60) := by
  unfold commitK
  split
  · exact h.more (by omega)
  · split
    · exact h.more (by omega)
    · split
      · exact h.more (by omega)
      · rename_i h3
        refine (KOk.ops _ h).more ?_
        have hr : roomZ K.n ≤ 11 * 512 := by unfold roomZ halfZ; split <;> omega
        have hb : b.length ≤ 5632 := by omega
        unfold commitOps
        rw [List.length_append, pieceOps_len]
        have : cntOf b.length ≤ 11 := by unfold cntOf; omega
        simp; omega
theorem BK.next2 {B : Nat} {w w' w'' : World} {g : Nat} {F : Nat → Prop} {s p s' p' : Value} {K K' : Dk} {n m m' : Nat} (h : BK B w g F s p K n m) (hd : DPost B w g K' F w') (hr : RK w'' s' p' K' n) (hrow : ∀ b, RowsOf s' p' b → RowsOf s p b ∨ w'.heap.size ≤ b) (hc : Chg NoB w' w'') (hk : KOk K' m') :
    ∃ F', BK B w'' g F' s' p' K' n m' ∧ Chg F w w' ∧ ∀ i, F' i → F i ∨ w.heap.size ≤ i := by
  obtain ⟨F', hdi, hcf, hF⟩ := hd
  refine ⟨F', ⟨hdi.no hc, hr, fun b hb hf => ?_, hk⟩, hcf, hF⟩
  rcases hrow b hb with h1 | h1
  · rcases hF b hf with h2 | h2
    · exact h.apart b h1 h2
    · have := h.rk.lt b h1; omega
  · have := (hdi.rng b hf).2; omega
theorem BK.rk2 {B : Nat} {w w' : World} {g : Nat} {F : Nat → Prop} {s p : Value} {K K' : Dk} {n m : Nat} (h : BK B w g F s p K n m) (hc : Chg F w w') : RK w' s p K n := h.rk.chg hc h.apart
/-- both disks, the reference's in the box bm -/
structure JB (W0 w : World) (g bm n m : Nat) (F : Nat → Prop) (s p : Value) (K : Dk) : Prop where
  bk : BK W0.heap.size w g F s p K n m
  box : Blk w bm 34 (rdC s p K.fuse K.dark)
  nf : ¬ F bm
  nr : ¬ RowsOf s p bm
  chg : Chg NoB W0 w
theorem JB.no {W0 w w' : World} {g bm n m : Nat} {F : Nat → Prop} {s p : Value} {K : Dk} (h : JB W0 w g bm n m F s p K) (hc : Chg NoB w w') : JB W0 w' g bm n m F s p K :=
  ⟨h.bk.no hc, h.box.chg hc (fun h => h), h.nf, h.nr, h.chg.trans hc (fun _ _ h => h)⟩
theorem JB.more {W0 w : World} {g bm n m m' : Nat} {F : Nat → Prop} {s p : Value} {K : Dk} (h : JB W0 w g bm n m F s p K) (hm : m ≤ m') : JB W0 w g bm n m' F s p K :=
  { h with bk := { h.bk with ok := h.bk.ok.more hm } }
/-- the new disk is stored into the box -/
theorem JB.store {W0 w w' : World} {g bm n m m' : Nat} {F F' : Nat → Prop} {s p s' p' : Value} {K K' : Dk} (h : JB W0 w g bm n m F s p K) (hbm : W0.heap.size ≤ bm) (hc : Chg F w w') (hbk : BK W0.heap.size w' g F' s' p' K' n m') (hrow : ∀ b, RowsOf s' p' b → RowsOf s p b ∨ w.heap.size ≤ b) (hF : ∀ i, F' i → F i ∨ w.heap.size ≤ i)
    (C : Array Value) (hC : C = rdC s' p' K'.fuse K'.dark) : JB W0 (w'.setRow bm C) g bm n m' F' s' p' K' := by
  have hl := h.box.lt
  have h1 : ¬ F' bm := fun hf => (hF _ hf).elim h.nf (fun h2 => by omega)
  have h2 : ¬ RowsOf s' p' bm := fun hr => (hrow _ hr).elim h.nr (fun h2 => by omega)
  have hs : Chg (fun b => b = bm) w' (w'.setRow bm C) := Chg.setRow (S := fun b => b = bm) (Chg.refl _ _) (g := bm) (.inl rfl) _
  refine ⟨hbk.chg hs (fun i hi e => h1 (by have e2 : i = bm := e; rw [← e2]; exact hi)) (fun i hi e => h2 (by have e2 : i = bm := e; rw [← e2]; exact hi)), ?_, h1, h2, ?_⟩
  · rw [← hC]; exact (h.box.chg hc h.nf).row C
  · exact (h.chg.trans hc (fun i hi hf => by have := (h.bk.di.rng i hf).1; omega)).trans hs (fun i hi e => by have e2 : i = bm := e; omega)
/-- the box is stored first, then the disk is turned -/
theorem JB.fin {W0 w w' w'' : World} {g bm n m m' : Nat} {F : Nat → Prop} {s p s' p' : Value} {K K' : Dk} (h : JB W0 w g bm n m F s p K) (hbm : W0.heap.size ≤ bm) (hcb : Chg (fun b => b = bm) w w') (hr : RK w' s' p' K' n) (hrow : ∀ b, RowsOf s' p' b → RowsOf s p b ∨ w.heap.size ≤ b)
    (hbox : Blk w' bm 34 (rdC s' p' K'.fuse K'.dark)) (hd : DPost W0.heap.size w' g K' F w'') (hk : KOk K' m') : ∃ F', JB W0 w'' g bm n m' F' s' p' K' := by
  have hl := h.box.lt
  obtain ⟨F', hbk, hc, hF⟩ := h.bk.next hr hrow hcb.size hd hk
  refine ⟨F', hbk, hbox.chg hc h.nf, fun hf => (hF _ hf).elim h.nf (fun h2 => by have := hcb.size; omega), fun hr => (hrow _ hr).elim h.nr (fun h2 => by omega), ?_⟩
  exact (h.chg.trans hcb (fun i hi e => by have e2 : i = bm := e; omega)).trans hc (fun i hi hf => by have := (h.bk.di.rng i hf).1; omega)
theorem JB.diC {W0 w w' : World} {g bm n m : Nat} {F : Nat → Prop} {s p : Value} {K : Dk} (h : JB W0 w g bm n m F s p K) (hcb : Chg (fun b => b = bm) w w') : DI W0.heap.size w' g K F := h.bk.di.chg hcb (fun i hi e => h.nf (by have e2 : i = bm := e; rw [← e2]; exact hi))
/-- some joint state -/
def JS (W0 w : World) (g bm n m : Nat) : Prop := ∃ F s p K, JB W0 w g bm n m F s p K
/-- a contract's bounds for writing a box anew -/
theorem box_ne {W0 w : World} {g bm n m : Nat} {F : Nat → Prop} {s p : Value} {K : Dk} (h : JB W0 w g bm n m F s p K) : bm < w.heap.size ∧ (∀ i, F i → i < w.heap.size) := ⟨h.box.lt, fun i hi => (h.bk.di.rng i hi).2⟩
end Go.Proofs.Ytlhfhhbafhnbkaa
namespace Go.Proofs.Ytlhfhhbafhnbkaa
open Go.RowKit
set_option linter.unusedSimpArgs false
set_option linter.unusedVariables false
def InvSAl (g n nl c1 c2 : Nat) (A1 A2 : Option Addr) (fu : Int) (da : Bool) (u4 u6 u7 u8 u9 u15 u16 u17 u18 u19 u20 u21 u22 u23 u24 u25 u26 u27 u28 u29 u30 u31 u32 u33 u34 u35 u36 u37 : Value) (W w0 : World) (D : Nat → Bool) (a : Act) (w : World) : Prop :=
  a = { tmps := #[.pointer (some ⟨g, 0, none⟩), .agg #[.slice A1 n c1, .slice A2 nl c2, .int .i64 fu, .bool da], undef, .pointer (some ⟨W.heap.size, 0, none⟩), (slot (D 21) (.bool true) (u4)), .int .i64 (n : Int), u6, u7, u8, u9, .int .i64 (n : Int), .pointer (some ⟨W.heap.size, 0, none⟩), .slice A1 n c1, .int .i64 (n : Int), .bool false, u15, u16, u17, u18, u19, u20, u21, u22, u23, u24, u25, u26, u27, u28, u29, u30, u31, u32, u33, u34, u35, u36, u37, (slot (D 0) (.pointer (some ⟨g, 0, none⟩)) (undef)), (slot (D 1) (.int .i64 (n : Int)) (undef)), (slot (D 2) (.pointer (some ⟨W.heap.size, 0, none⟩)) (undef)), (slot (D 3) (.slice A1 n c1) (undef)), (slot (D 4) (.int .i64 (n : Int)) (undef)), (slot (D 5) (.bool true) (undef)), (slot (D 6) (.bool true) (undef)), (slot (D 7) (.pointer (some ⟨g, 0, none⟩)) (undef)), (slot (D 8) (.int .i64 (nl : Int)) (undef)), (slot (D 9) (.pointer (some ⟨W.heap.size, 1, none⟩)) (undef)), (slot (D 10) (.slice A2 nl c2) (undef)), (slot (D 11) (.int .i64 (nl : Int)) (undef)), (slot (D 12) (.bool true) (undef)), (slot (D 13) (.bool true) (undef)), (slot (D 14) (.bool true) (undef)), (slot (D 15) (.pointer (some ⟨g, 0, none⟩)) (undef)), (slot (D 16) (.bool da) (undef)), (slot (D 17) (.pointer (some ⟨W.heap.size, 3, none⟩)) (undef)), (slot (D 18) (.bool da) (undef)), (slot (D 19) (.bool true) (undef)), (slot (D 20) (.bool true) (undef))], defers := [] } ∧
    (Chg NoB w0 w)
set_option maxRecDepth 100000 in
set_option maxHeartbeats 8000000 in
theorem alike_any {B : Nat} {W : World} {g : Nat} {F : Nat → Prop} {s p : Value} {K : Dk} {n m : Nat} (hJ : BK B W g F s p K n m) (hm : m ≤ 1000) :
    Calls Try.prog 35 #[.pointer (some ⟨g, 0, none⟩), rkV s p K] W fun e w' => e = .returned (.bool true) ∧ Chg NoB W w' := by
  obtain ⟨A1, c1, hs⟩ := own_slice hJ.rk.sure
  obtain ⟨nl, hnl⟩ : ∃ nl, nl = K.loose.length := ⟨_, rfl⟩
  obtain ⟨A2, c2, hp⟩ := own_slice hJ.rk.loose
  rw [← hnl] at hp
  subst hs hp
  have HNUM := Lib.hid hJ.rk.num
  have HN1 := Lib.hid hJ.rk.n1
  have HLO := Lib.hid (show K.loose.length ≤ 1000 from Nat.le_trans hJ.ok.loose (by omega))
  obtain ⟨fu, hfu⟩ : ∃ fu, fu = K.fuse := ⟨_, rfl⟩
  obtain ⟨da, hda⟩ : ∃ da, da = K.dark := ⟨_, rfl⟩
  have HDA := Lib.hid hda
  have HRK := Lib.hid (show rkV (.slice A1 n c1) (.slice A2 nl c2) K = .agg #[.slice A1 n c1, .slice A2 nl c2, .int .i64 fu, .bool da] from by rw [hfu, hda]; rfl)
  rw [HRK.out]
  obtain ⟨wA, hwA⟩ : ∃ wA, wA = W.alloc (.cells #[.slice A1 n c1, .slice A2 nl c2, .int .i64 fu, .bool da] 34) := ⟨_, rfl⟩
  have hcA : Chg NoB W wA := by rw [hwA]; exact (Chg.refl _ _).alloc _
  have hmA : Blk wA W.heap.size 34 #[.slice A1 n c1, .slice A2 nl c2, .int .i64 fu, .bool da] := by rw [hwA]; exact Blk.new W _ _
  have HCA := Lib.hid hcA
  have HMA := Lib.hid hmA
  have HJ := Lib.hid hJ
  have HNL := Lib.hid hnl
  have HD := Lib.hid (hJ.no hcA).di
  clear hfu hda hcA hmA hJ hnl hm
  go_enter Try.func35, Try.ntmps35
  go_upto_region 1 with (fail)
  rw [← hwA]
  clear hwA
  go_wp2_with fail
  go_loopw [5] (fun i wr => ∃ j : Nat, j ≤ n ∧ i = .int .i64 j ∧ Chg NoB wA wr) (fun i _ => n - (intOf i).toNat)
  case atStart => exact ⟨0, Nat.zero_le _, rfl, Chg.refl _ _⟩
  case round =>
    obtain ⟨j, hj, rfl, hch⟩ := hrel
    have HCH := Lib.hid hch
    have HC0 := Lib.hid (HCA.out.trans hch (fun _ _ h => h))
    have HMR := Lib.hid (HMA.out.chg hch (fun h => h))
    have k0 := HMR.out.cell 0
    clear hch
    have hn8 := HN1.out
    by_cases hlt : j < n
    · have HLT := Lib.hid hlt
      go_upto_region 6 with (fail)
      clear k0
      go_wp2_with fail
      refine ((HJ.out.no HC0.out).di.disk.read (j : Int)).mono ?_
      rintro e w5 (⟨hne, rfl, rfl⟩ | ⟨heq, ⟨gb, rfl, hgb, hb5⟩, hc5⟩)
      · have HNE := Lib.hid hne
        obtain ⟨e0, he0⟩ : ∃ e0, e0 = readE K (j : Int) := ⟨_, rfl⟩
        have HE0 := Lib.hid he0
        rw [← he0]
        clear hne he0
        go_wp2_with (first
          | (refine wpList_load_row rfl 34 _ rfl W.heap.size rfl 34 _ (0, 0) _ HMR.out Try.underlying34 rfl rd_size ?_)
          | fail)
        have hcall := rread_K K n w5 (HJ.out.rk.no HC0.out) HLO.out HJ.out.ok.now (j : Int)
        rw [HRK.out, ← HE0.out, if_neg (by rw [HE0.out]; exact HNE.out)] at hcall
        refine hcall.mono ?_
        clear hcall
        rintro e w6 ⟨rfl, hc6⟩
        have hst := (RB.none_ (w := w6) (B := w6.heap.size) (A := none)).toStr (n := 0) rfl 0 Try.underlying25 Try.underlying5 Try.underlying9
        rw [show strV [] = .string ⟨#[]⟩ from rfl]
        have HC6 := Lib.hid (HCH.out.trans hc6 (fun _ _ h => h))
        clear hc6
        go_wp2_with fail
        clear hst
        go_roundw
        case rel => exact ⟨j + 1, by omega, by go_num, HC6.out⟩
        case measure => simp [intOf]; omega
      · have HEQ := Lib.hid heq
        have hnl : (K.now (j : Int)).length = 512 := by
          rw [← HJ.out.ok.now]; exact settle_len (f := K.sure) _ _ HJ.out.ok.s5 HJ.out.ok.l5 _
        have HNL5 := Lib.hid hnl
        have HM5 := Lib.hid (HMR.out.chg hc5 (fun h => h))
        have HC5 := Lib.hid (HC0.out.trans hc5 (fun _ _ h => h))
        have HB5 := Lib.hid (show Blk w5 gb 84 (((K.now (j : Int)).map bv).toArray) from hb5)
        have HCH5 := Lib.hid (HCH.out.trans hc5 (fun _ _ h => h))
        obtain ⟨arr, harr⟩ : ∃ arr, arr = (K.now (j : Int)).toArray := ⟨_, rfl⟩
        have HARR := Lib.hid harr
        clear heq hnl hgb hb5 hc5 harr
        go_wp2_with (first
          | (refine wpList_load_row rfl 34 _ rfl W.heap.size rfl 34 _ (0, 0) _ HM5.out Try.underlying34 rfl rd_size ?_)
          | fail)
        have hcall := rread_K K n w5 (HJ.out.rk.no HC5.out) HLO.out HJ.out.ok.now (j : Int)
        rw [HRK.out, if_pos HEQ.out, HEQ.out, show strV (K.now (j : Int)) = .string ⟨arr⟩ from by rw [HARR.out]; rfl] at hcall
        refine hcall.mono ?_
        clear hcall
        rintro e w6 ⟨rfl, hc6⟩
        have hb6 := HB5.out.chg hc6 (fun h => h)
        have hst := (blk_RB hb6).toStr (n := 512) HNL5.out 512 Try.underlying25 Try.underlying5 Try.underlying9
        rw [← HARR.out] at hst
        have HC6 := Lib.hid (HCH5.out.trans hc6 (fun _ _ h => h))
        clear hc6 hb6
        go_wp2_with fail
        clear hst
        go_roundw
        case rel => exact ⟨j + 1, by omega, by go_num, HC6.out⟩
        case measure => simp [intOf]; omega
    · obtain rfl : j = n := by omega
      go_upto_region 8 with (fail)
      clear k0
      refine wp_region_cl rfl (by kernel_rfl) (InvSAl g j nl c1 c2 A1 A2 fu da u4 u6 u7 u8 u9 u15 u16 u17 u18 u19 u20 u21 u22 u23 u24 u25 u26 u27 u28 u29 u30 u31 u32 u33 u34 u35 u36 u37 W wr) ?_ ?_ ?_
      · exact ⟨rfl, (Chg.refl _ _).drew⟩
      ·
        intro D a w i o ho hD hcl hpre hI
        obtain ⟨rfl, h0⟩ := hI
        have hi : i < 22 := by have := (List.getElem?_eq_some_iff.1 ho).1; simpa using this
        rcases (by omega : i = 0 ∨ i = 1 ∨ i = 2 ∨ i = 3 ∨ i = 4 ∨ i = 5 ∨ i = 6 ∨ i = 7 ∨ i = 8 ∨ i = 9 ∨ i = 10 ∨ i = 11 ∨ i = 12 ∨ i = 13 ∨ i = 14 ∨ i = 15 ∨ i = 16 ∨ i = 17 ∨ i = 18 ∨ i = 19 ∨ i = 20 ∨ i = 21) with rfl | rfl | rfl | rfl | rfl | rfl | rfl | rfl | rfl | rfl | rfl | rfl | rfl | rfl | rfl | rfl | rfl | rfl | rfl | rfl | rfl | rfl
        · obtain rfl := Option.some.inj ho
          clear ho hpre hi hcl
          go_wp2_with fail
          unfold AtEnd
          exact ⟨rfl, h0⟩
        · obtain rfl := Option.some.inj ho
          have z0 := hpre ⟨0, .data⟩ (by simp) rfl
          clear ho hpre hi hcl
          have hdd := ((HJ.out.no HC0.out).di.no h0).disk.len_
          have HDD := Lib.hid hdd
          clear hdd
          go_wp2_with fail
          refine HDD.out.mono ?_
          rintro e w5 ⟨rfl, rfl⟩
          rw [HNUM.out]
          go_wp2_with fail
          unfold AtEnd
          exact ⟨by simp only [more, slot_true, slot_false, Nat.reduceEqDiff, ↓reduceIte, z0], h0⟩
        · obtain rfl := Option.some.inj ho
          clear ho hpre hi hcl
          go_wp2_with fail
          unfold AtEnd
          exact ⟨rfl, h0⟩
        · obtain rfl := Option.some.inj ho
          have z2 := hpre ⟨2, .data⟩ (by simp) rfl
          clear ho hpre hi hcl
          have k0 := (HMR.out.chg h0 (fun h => h)).cell 0
          go_wp2_with fail
          unfold AtEnd
          exact ⟨by simp only [more, slot_true, slot_false, Nat.reduceEqDiff, ↓reduceIte, z2], h0⟩
        · obtain rfl := Option.some.inj ho
          have z3 := hpre ⟨3, .data⟩ (by simp) rfl
          clear ho hpre hi hcl
          go_wp2_with fail
          unfold AtEnd
          exact ⟨by simp only [more, slot_true, slot_false, Nat.reduceEqDiff, ↓reduceIte, z3], h0⟩
        · obtain rfl := Option.some.inj ho
          have z1 := hpre ⟨1, .data⟩ (by simp) rfl
          have z4 := hpre ⟨4, .data⟩ (by simp) rfl
          clear ho hpre hi hcl
          go_wp2_with fail
          unfold AtEnd
          exact ⟨by simp only [more, slot_true, slot_false, Nat.reduceEqDiff, ↓reduceIte, z1, z4], h0⟩
        · obtain rfl := Option.some.inj ho
          have z5 := hpre ⟨5, .data⟩ (by simp) rfl
          have z1 := hpre ⟨1, .chain⟩ (by simp) rfl
          clear ho hpre hi hcl
          go_wp2_with fail
          unfold AtEnd
          exact ⟨by simp only [more, slot_true, slot_false, Nat.reduceEqDiff, ↓reduceIte, z5, z1], h0⟩
        · obtain rfl := Option.some.inj ho
          have z6 := hpre ⟨6, .guard⟩ (by simp) rfl
          clear ho hpre hi hcl
          go_wp2_with fail
          unfold AtEnd
          exact ⟨by simp only [more, slot_true, slot_false, Nat.reduceEqDiff, ↓reduceIte, z6], h0⟩
        · obtain rfl := Option.some.inj ho
          have z7 := hpre ⟨7, .data⟩ (by simp) rfl
          have z6 := hpre ⟨6, .chain⟩ (by simp) rfl
          clear ho hpre hi hcl
          have hdd := ((HJ.out.no HC0.out).di.no h0).disk.loose_
          have HDD := Lib.hid hdd
          clear hdd
          go_wp2_with fail
          refine HDD.out.mono ?_
          rintro e w5 ⟨rfl, rfl⟩
          rw [← HNL.out]
          go_wp2_with fail
          unfold AtEnd
          exact ⟨by simp only [more, slot_true, slot_false, Nat.reduceEqDiff, ↓reduceIte, z7, z6], h0⟩
        · obtain rfl := Option.some.inj ho
          have z6 := hpre ⟨6, .guard⟩ (by simp) rfl
          clear ho hpre hi hcl
          go_wp2_with fail
          unfold AtEnd
          exact ⟨by simp only [more, slot_true, slot_false, Nat.reduceEqDiff, ↓reduceIte, z6], h0⟩
        · obtain rfl := Option.some.inj ho
          have z9 := hpre ⟨9, .data⟩ (by simp) rfl
          have z6 := hpre ⟨6, .guard⟩ (by simp) rfl
          clear ho hpre hi hcl
          have k0 := (HMR.out.chg h0 (fun h => h)).cell 1
          go_wp2_with fail
          unfold AtEnd
          exact ⟨by simp only [more, slot_true, slot_false, Nat.reduceEqDiff, ↓reduceIte, z9, z6], h0⟩
        · obtain rfl := Option.some.inj ho
          have z10 := hpre ⟨10, .data⟩ (by simp) rfl
          have z6 := hpre ⟨6, .guard⟩ (by simp) rfl
          clear ho hpre hi hcl
          go_wp2_with fail
          unfold AtEnd
          exact ⟨by simp only [more, slot_true, slot_false, Nat.reduceEqDiff, ↓reduceIte, z10, z6], h0⟩
        · obtain rfl := Option.some.inj ho
          have z8 := hpre ⟨8, .data⟩ (by simp) rfl
          have z11 := hpre ⟨11, .data⟩ (by simp) rfl
          have z6 := hpre ⟨6, .guard⟩ (by simp) rfl
          clear ho hpre hi hcl
          go_wp2_with fail
          unfold AtEnd
          exact ⟨by simp only [more, slot_true, slot_false, Nat.reduceEqDiff, ↓reduceIte, z8, z11, z6], h0⟩
        · obtain rfl := Option.some.inj ho
          have z6 := hpre ⟨6, .data⟩ (by simp) rfl
          have z12 := hpre ⟨12, .data⟩ (by simp) rfl
          clear ho hpre hi hcl
          go_wp2_with fail
          unfold AtEnd
          exact ⟨by simp only [more, slot_true, slot_false, Nat.reduceEqDiff, ↓reduceIte, z6, z12], h0⟩
        · obtain rfl := Option.some.inj ho
          have z13 := hpre ⟨13, .data⟩ (by simp) rfl
          have z8 := hpre ⟨8, .chain⟩ (by simp) rfl
          clear ho hpre hi hcl
          go_wp2_with fail
          unfold AtEnd
          exact ⟨by simp only [more, slot_true, slot_false, Nat.reduceEqDiff, ↓reduceIte, z13, z8], h0⟩
        · obtain rfl := Option.some.inj ho
          have z14 := hpre ⟨14, .guard⟩ (by simp) rfl
          clear ho hpre hi hcl
          go_wp2_with fail
          unfold AtEnd
          exact ⟨by simp only [more, slot_true, slot_false, Nat.reduceEqDiff, ↓reduceIte, z14], h0⟩
        · obtain rfl := Option.some.inj ho
          have z15 := hpre ⟨15, .data⟩ (by simp) rfl
          have z14 := hpre ⟨14, .chain⟩ (by simp) rfl
          clear ho hpre hi hcl
          have hdd := ((HJ.out.no HC0.out).di.no h0).disk.dark_
          have HDD := Lib.hid hdd
          clear hdd
          go_wp2_with fail
          refine HDD.out.mono ?_
          rintro e w5 ⟨rfl, rfl⟩
          rw [← HDA.out]
          go_wp2_with fail
          unfold AtEnd
          exact ⟨by simp only [more, slot_true, slot_false, Nat.reduceEqDiff, ↓reduceIte, z15, z14], h0⟩
        · obtain rfl := Option.some.inj ho
          have z14 := hpre ⟨14, .guard⟩ (by simp) rfl
          clear ho hpre hi hcl
          go_wp2_with fail
          unfold AtEnd
          exact ⟨by simp only [more, slot_true, slot_false, Nat.reduceEqDiff, ↓reduceIte, z14], h0⟩
        · obtain rfl := Option.some.inj ho
          have z17 := hpre ⟨17, .data⟩ (by simp) rfl
          have z14 := hpre ⟨14, .guard⟩ (by simp) rfl
          clear ho hpre hi hcl
          have k0 := (HMR.out.chg h0 (fun h => h)).cell 3
          go_wp2_with fail
          unfold AtEnd
          exact ⟨by simp only [more, slot_true, slot_false, Nat.reduceEqDiff, ↓reduceIte, z17, z14], h0⟩
        · obtain rfl := Option.some.inj ho
          have z16 := hpre ⟨16, .data⟩ (by simp) rfl
          have z18 := hpre ⟨18, .data⟩ (by simp) rfl
          have z14 := hpre ⟨14, .guard⟩ (by simp) rfl
          clear ho hpre hi hcl
          go_wp2_with fail
          unfold AtEnd
          exact ⟨by simp only [more, slot_true, slot_false, Nat.reduceEqDiff, ↓reduceIte, z16, z18, z14], h0⟩
        · obtain rfl := Option.some.inj ho
          have z14 := hpre ⟨14, .data⟩ (by simp) rfl
          have z19 := hpre ⟨19, .data⟩ (by simp) rfl
          clear ho hpre hi hcl
          go_wp2_with fail
          unfold AtEnd
          exact ⟨by simp only [more, slot_true, slot_false, Nat.reduceEqDiff, ↓reduceIte, z14, z19], h0⟩
        · obtain rfl := Option.some.inj ho
          have z20 := hpre ⟨20, .data⟩ (by simp) rfl
          have z16 := hpre ⟨16, .chain⟩ (by simp) rfl
          clear ho hpre hi hcl
          go_wp2_with fail
          unfold AtEnd
          exact ⟨by simp only [more, slot_true, slot_false, Nat.reduceEqDiff, ↓reduceIte, z20, z16], h0⟩
      · intro D a w hall hI
        obtain ⟨rfl, h0⟩ := hI
        have HC8 := Lib.hid (HC0.out.trans h0 (fun _ _ h => h))
        have z0 := hall 0 (by decide)
        have z1 := hall 1 (by decide)
        have z2 := hall 2 (by decide)
        have z3 := hall 3 (by decide)
        have z4 := hall 4 (by decide)
        have z5 := hall 5 (by decide)
        have z6 := hall 6 (by decide)
        have z7 := hall 7 (by decide)
        have z8 := hall 8 (by decide)
        have z9 := hall 9 (by decide)
        have z10 := hall 10 (by decide)
        have z11 := hall 11 (by decide)
        have z12 := hall 12 (by decide)
        have z13 := hall 13 (by decide)
        have z14 := hall 14 (by decide)
        have z15 := hall 15 (by decide)
        have z16 := hall 16 (by decide)
        have z17 := hall 17 (by decide)
        have z18 := hall 18 (by decide)
        have z19 := hall 19 (by decide)
        have z20 := hall 20 (by decide)
        have z21 := hall 21 (by decide)
        clear hall
        simp only [z0, z1, z2, z3, z4, z5, z6, z7, z8, z9, z10, z11, z12, z13, z14, z15, z16, z17, z18, z19, z20, z21, slot_true]
        clear z0 z1 z2 z3 z4 z5 z6 z7 z8 z9 z10 z11 z12 z13 z14 z15 z16 z17 z18 z19 z20 z21
        clear h0
        go_wp2_with fail
        go_ret
        exact ⟨rfl, HC8.out⟩
end Go.Proofs.Ytlhfhhbafhnbkaa
namespace Go.Proofs.Ytlhfhhbafhnbkaa
open Go.RowKit
set_option linter.unusedSimpArgs false
set_option linter.unusedVariables false
/-- what few tells -/
def FewPost (n : Nat) (l : List ActV) (W : World) (e : Ending) (w' : World) : Prop := ∃ b : Bool, e = .returned (.bool b) ∧ (b = true → n ≤ 12 ∧ ∀ x ∈ l, x.bn ≤ 3000) ∧ w' = W
set_option maxRecDepth 100000 in
set_option maxHeartbeats 4000000 in
theorem few_any (A : Option Addr) (n c : Nat) (l : List ActV) (W : World) (hA : Acts W W.heap.size A n l) :
    Calls Try.prog 28 #[.slice A n c] W (FewPost n l W) := by
  have HA := Lib.hid hA
  clear hA
  go_enter Try.func28, Try.ntmps28
  go_wp2_with fail
  go_loopw [3] (fun i wr => ∃ j : Nat, j ≤ n ∧ i = .int .i64 j ∧ RowKit.Hid (∀ k, k < j → k < 12 ∧ ∃ x, l[k]? = some x ∧ x.bn ≤ 3000) ∧ wr = W) (fun i _ => n - (intOf i).toNat)
  case atStart => exact ⟨0, Nat.zero_le _, rfl, Lib.hid (fun k h => by omega), rfl⟩
  case round =>
    obtain ⟨j, hj, rfl, HK, rfl⟩ := hrel
    by_cases hlt : j < n
    · obtain ⟨ad, x, rfl, hb, hx, hat, hok⟩ := HA.out.at_ hlt
      have c1 := hat.c1
      have HX := Lib.hid hx
      obtain ⟨xk, xa, xn, xc, xl, xi, xg, xb, ka, kn, kc, ks⟩ := x
      have hltI : (j : Int) < (n : Int) := by omega
      clear hat hok hx hb
      dsimp only at c1
      by_cases h12 : j < 12
      · have h12I : ¬ (12 : Int) ≤ (j : Int) := by omega
        by_cases h3 : xn ≤ 3000
        · have h3I : ¬ (3000 : Int) < (xn : Int) := by omega
          go_wp2_with fail
          go_roundw
          case rel => exact ⟨j + 1, by omega, by go_num, Lib.hid (fun k hk => by
            rcases (by omega : k < j ∨ k = j) with h | rfl
            · exact HK.out k h
            · exact ⟨h12, _, HX.out, h3⟩), trivial⟩
          case measure => simp [intOf]; omega
        · have h3I : (3000 : Int) < (xn : Int) := by omega
          go_wp2_with fail
          go_ret
          first | exact ⟨rfl, fun h => (by cases h), rfl⟩ | exact ⟨false, rfl, fun h => (by cases h), rfl⟩ | exact ⟨false, ⟨rfl, fun h => (by cases h)⟩, rfl⟩
      · have h12I : (12 : Int) ≤ (j : Int) := by omega
        go_wp2_with fail
        go_ret
        first | exact ⟨rfl, fun h => (by cases h), rfl⟩ | exact ⟨false, rfl, fun h => (by cases h), rfl⟩ | exact ⟨false, ⟨rfl, fun h => (by cases h)⟩, rfl⟩
    · obtain rfl : j = n := by omega
      go_wp2_with fail
      go_ret
      refine ⟨true, rfl, fun _ => ⟨?_, fun x hx => ?_⟩, rfl⟩
      · rcases Nat.eq_zero_or_pos j with h | h
        · omega
        · have := (HK.out (j - 1) (by omega)).1; omega
      · obtain ⟨k, hk, he⟩ := List.getElem_of_mem hx
        obtain ⟨_, y, hy, hyb⟩ := HK.out k (by rw [← HA.out.1]; exact hk)
        rw [List.getElem?_eq_getElem hk, he] at hy
        cases hy; exact hyb
end Go.Proofs.Ytlhfhhbafhnbkaa
namespace Go.Proofs.Ytlhfhhbafhnbkaa
open Go.RowKit
set_option linter.unusedSimpArgs false
set_option linter.unusedVariables false
def lenV : Value → Nat
  | .slice _ n _ => n
  | _ => 0
/-- what many tells: some bytes, not many -/
def ManyPost (W : World) (e : Ending) (w' : World) : Prop := ∃ A' n' c' l', e = .returned (.slice A' n' c') ∧ l'.length = n' ∧ n' ≤ c' ∧ n' ≤ 7000 ∧ RB w' w'.heap.size A' l' ∧ Chg NoB W w' ∧ ∀ ad, A' = some ad → W.heap.size ≤ ad.block
set_option maxRecDepth 100000 in
set_option maxHeartbeats 4000000 in
theorem many_any (A : Option Addr) (n c : Nat) (l : List UInt8) (xl : Int) (W : World) (hn : l.length = n) (hn3 : n ≤ 3000) (hr : RB W W.heap.size A l) :
    Calls Try.prog 29 #[.slice A n c, .int .i64 xl] W (ManyPost W) := by
  have HN := Lib.hid hn
  have HN3 := Lib.hid hn3
  have HR := Lib.hid hr
  have HO := Lib.hid (OwnB.nil_ W W.heap.size)
  obtain ⟨mn, hmn⟩ : ∃ mn : Int, mn = (if (4000 : Int) < xl then 4000 else xl) := ⟨_, rfl⟩
  have hm4 : mn ≤ 4000 := by rw [hmn]; split <;> omega
  have HM4 := Lib.hid hm4
  have hmn2 := hmn.symm
  clear hn hr hmn hm4
  go_enter Try.func29, Try.ntmps29
  go_wp2_with fail
  go_loopw [5] (fun v wr => ∃ (B : Option Addr) (m d : Nat) (bl : List UInt8), v = .slice B m d ∧ bl.length = m ∧ m ≤ 4000 ∧ RowKit.Hid (OwnB wr W.heap.size (.slice B m d) bl) ∧ RowKit.Hid (Chg NoB W wr)) (fun v _ => 4001 - lenV v)
  case atStart => exact ⟨none, 0, 0, [], rfl, rfl, by decide, HO, Lib.hid (Chg.refl _ _)⟩
  case round =>
    obtain ⟨B, m, d, bl, rfl, hbl, hm, HOB, HCH⟩ := hrel
    have HBL := Lib.hid hbl
    have HMM := Lib.hid hm
    clear hbl
    have hw : RowKit.wrap64 ((m : Int) + (n : Int)) = (m : Int) + (n : Int) := IntWalk.wrap64_in _ (by omega)
    have HRR := Lib.hid (RBchg HR.out HCH.out)
    by_cases h0 : 0 < n
    · have h0I : (0 : Int) < (n : Int) := by omega
      by_cases hle : (m : Int) + (n : Int) ≤ mn
      · go_wp2_with (at_builtin; refine wpList_appendB rfl (.tmp 19) (.tmp 20) rfl W.heap.size (.slice B m d) bl rfl HOB.out wr.heap.size A n c l HN.out rfl HRR.out (by rw [HBL.out, HN.out]; omega) HCH.out.size ?_; intro v1 w1 ho1 hg1 he1; have HC1 := Lib.hid (HCH.out.own HOB.out hg1 (Nat.le_refl _)); obtain ⟨A1, n1, c1, rfl, hn1, hr1, _, _⟩ := ho1.val; have HO1 := Lib.hid ho1; have HN1 := Lib.hid hn1; clear ho1 hg1 he1 hn1 hr1)
        go_roundw
        case rel => exact ⟨A1, n1, c1, _, rfl, HN1.out, by have h1 := HN1.out; rw [List.length_append, HBL.out, HN.out] at h1; have := HM4.out; omega, HO1, HC1⟩
        case measure => have h1 := HN1.out; rw [List.length_append, HBL.out, HN.out] at h1; simp [lenV]; omega
      · go_wp2_with (at_builtin; refine wpList_appendB rfl (.tmp 22) (.tmp 23) rfl W.heap.size (.slice B m d) bl rfl HOB.out wr.heap.size A n c l HN.out rfl HRR.out (by rw [HBL.out, HN.out]; omega) HCH.out.size ?_; intro v1 w1 ho1 hg1 he1; have HC1 := Lib.hid (HCH.out.own HOB.out hg1 (Nat.le_refl _)); obtain ⟨A1, n1, c1, rfl, hn1, hr1, hc1, hb1⟩ := ho1.val; have HBL1 := Lib.hid hb1; have HN1 := Lib.hid hn1; have HR1 := Lib.hid hr1; have HCC := Lib.hid hc1; clear ho1 hg1 he1 hn1 hr1 hc1 hb1)
        go_ret
        exact ⟨A1, n1, c1, _, rfl, HN1.out, HCC.out, by have h1 := HN1.out; rw [List.length_append, HBL.out, HN.out] at h1; have := HMM.out; have := HN3.out; omega, HR1.out, HC1.out, fun ad e => (HBL1.out ad e).2.2⟩
    · have h0I : ¬ (0 : Int) < (n : Int) := by omega
      go_wp2_with (at_builtin; refine wpList_appendB rfl (.tmp 22) (.tmp 23) rfl W.heap.size (.slice B m d) bl rfl HOB.out wr.heap.size A n c l HN.out rfl HRR.out (by rw [HBL.out, HN.out]; omega) HCH.out.size ?_; intro v1 w1 ho1 hg1 he1; have HC1 := Lib.hid (HCH.out.own HOB.out hg1 (Nat.le_refl _)); obtain ⟨A1, n1, c1, rfl, hn1, hr1, hc1, hb1⟩ := ho1.val; have HBL1 := Lib.hid hb1; have HN1 := Lib.hid hn1; have HR1 := Lib.hid hr1; have HCC := Lib.hid hc1; clear ho1 hg1 he1 hn1 hr1 hc1 hb1)
      go_ret
      exact ⟨A1, n1, c1, _, rfl, HN1.out, HCC.out, by have h1 := HN1.out; rw [List.length_append, HBL.out, HN.out] at h1; have := HMM.out; have := HN3.out; omega, HR1.out, HC1.out, fun ad e => (HBL1.out ad e).2.2⟩
end Go.Proofs.Ytlhfhhbafhnbkaa
