/-
  AN ARGUMENT []Act: what its cells hold.
-/
import Derived.Test.YtmkbahhnjobglaaSec18
import Derived.Deep.Slices
import Derived.ChangeArms
import Derived.ChangeSlices
import Derived.WideShapes
namespace Go.Proofs.Ytmkbahhnjobglaa
open Go.ChangeShapes Go.WideShapes Go.RowKit
set_option linter.unusedSimpArgs false
def I64r (x : Int) : Prop := -9223372036854775808 ≤ x ∧ x ≤ 9223372036854775807
structure ActV where
  kind : Int
  i : Int
  c : UInt8
  long : Int
  ka : Option Addr
  kn : Nat
  kc : Nat
  ks : List Int
instance : Inhabited ActV := ⟨⟨0, 0, 0, 0, none, 0, 0, []⟩⟩
structure ActOk (w : World) (B : Nat) (x : ActV) : Prop where
  hk : I64r x.kind
  hi : I64r x.i
  hl : I64r x.long
  len : x.ks.length = x.kn
  row : IB w B x.ka x.ks
  nil : x.ka = none → x.kn = 0 ∧ x.kc = 0
  rng : ∀ k ∈ x.ks, I64r k
structure ActAt (w : World) (a : Addr) (x : ActV) : Prop where
  c0 : w.cell? a = some (.int .i64 x.kind)
  c1 : w.cell? ⟨a.block, a.off + 1, none⟩ = some (.int .i64 x.i)
  c2 : w.cell? ⟨a.block, a.off + 2, none⟩ = some (.int .u8 (x.c.toNat : Int))
  c3 : w.cell? ⟨a.block, a.off + 3, none⟩ = some (.int .i64 x.long)
  c4 : w.cell? ⟨a.block, a.off + 4, none⟩ = some (.slice x.ka x.kn x.kc)
def Acts (w : World) (B : Nat) (A : Option Addr) (n : Nat) (l : List ActV) : Prop :=
  l.length = n ∧ (∀ x ∈ l, ActOk w B x) ∧ (0 < n → ∃ ad, A = some ad ∧ ad.block < B ∧ ∀ (j : Nat) (h : j < l.length), ActAt w (ad.add (j * 5)) l[j])
theorem IB.keepB {w w' : World} {B : Nat} {A : Option Addr} {l : List Int} (h : IB w B A l) (hk : ∀ i, i < B → w'.heap[i]? = w.heap[i]?) : IB w' B A l :=
  ⟨h.1, fun hn => by
    obtain ⟨ad, e, hb, hx⟩ := h.2 hn
    exact ⟨ad, e, hb, fun j u hu => (cell_of_heap (by rw [block_of_add]; exact hk _ hb)).trans (hx j u hu)⟩⟩
theorem Acts.keep {w w' : World} {B : Nat} {A : Option Addr} {n : Nat} {l : List ActV} (h : Acts w B A n l) (hk : ∀ i, i < B → w'.heap[i]? = w.heap[i]?) : Acts w' B A n l := by
  refine ⟨h.1, fun x hx => ?_, fun hn => ?_⟩
  · have h1 := h.2.1 x hx
    exact { h1 with row := h1.row.keepB hk }
  · obtain ⟨ad, e, hb, hc⟩ := h.2.2 hn
    refine ⟨ad, e, hb, fun j hj => ?_⟩
    have h1 := hc j hj
    have h0 : w'.cell? (ad.add (j * 5)) = w.cell? (ad.add (j * 5)) := cell_of_heap (by rw [block_of_add]; exact hk _ hb)
    have hq : ∀ q, w'.cell? ((ad.add (j * 5)).add q) = w.cell? ((ad.add (j * 5)).add q) := fun q => cell_of_heap (by rw [block_of_add, block_of_add]; exact hk _ hb)
    exact ⟨h0.trans h1.c0, (hq 1).trans h1.c1, (hq 2).trans h1.c2, (hq 3).trans h1.c3, (hq 4).trans h1.c4⟩
theorem Acts.chg {S : Nat → Prop} {w w' : World} {B : Nat} {A : Option Addr} {n : Nat} {l : List ActV} (h : Acts w B A n l) (hc : Chg S w w') (hB : B ≤ w.heap.size) (hS : ∀ i, i < B → ¬ S i) : Acts w' B A n l :=
  h.keep (fun i hi => hc.block i (by omega) (hS i hi))
theorem Acts.no {w w' : World} {B : Nat} {A : Option Addr} {n : Nat} {l : List ActV} (h : Acts w B A n l) (hc : Chg NoB w w') (hB : B ≤ w.heap.size) : Acts w' B A n l := h.chg hc hB (fun _ _ h => h)
/-- the j-th act -/
theorem Acts.at_ {w : World} {B : Nat} {A : Option Addr} {n : Nat} {l : List ActV} (h : Acts w B A n l) {j : Nat} (hj : j < n) : ∃ ad x, A = some ad ∧ ad.block < B ∧ l[j]? = some x ∧ ActAt w (ad.add (j * 5)) x ∧ ActOk w B x := by
  obtain ⟨ad, e, hb, hc⟩ := h.2.2 (by omega)
  have hl : j < l.length := by rw [h.1]; exact hj
  exact ⟨ad, l[j], e, hb, List.getElem?_eq_getElem hl, hc j hl, h.2.1 _ (List.getElem_mem hl)⟩
theorem act_wide : Try.prog.cellsOf 33 = 5 := by kernel_rfl
theorem int_wide : Try.prog.cellsOf 3 = 1 := by kernel_rfl
theorem ints_wide : Try.prog.cellsOf 23 = 1 := by kernel_rfl
theorem five_of {α : Type} : ∀ (l : List α), l.length = 5 → ∃ a b c d e, l = [a, b, c, d, e]
  | [a, b, c, d, e], _ => ⟨a, b, c, d, e, rfl⟩
theorem i64_of {n : Int} (h : (Lit.int .i64 n).wf = true) : I64r n := by
  simp [Lit.wf, IntKind.min, IntKind.max, IntKind.bits, IntKind.signed] at h; exact ⟨by omega, by omega⟩
section
variable {H : Type} {enc : TypeId × Value → H} {w : World} {base : Nat} {held : Bool}
theorem open_act {fuel : Nat} {cs : List Value} {x : DataW H × List MemPlace} (h : DataW.trod enc Try.prog w base (fun _ => true) held fuel 33 cs = some x) :
    ∃ y : ActV, cs = [.int .i64 y.kind, .int .i64 y.i, .int .u8 (y.c.toNat : Int), .int .i64 y.long, .slice y.ka y.kn y.kc] ∧ ActOk w w.heap.size y := by
  obtain ⟨xs, n, _, _, hsz, hlen, hg⟩ := DataW.trod_struct Try.underlying33 h
  rw [act_wide] at hsz
  obtain ⟨x0, x1, x2, x3, x4, rfl⟩ := five_of xs hlen
  obtain ⟨c0, c1, c2, c3, c4, rfl⟩ := five_of cs hsz
  have g0 := hg 0 _ rfl
  have g1 := hg 1 _ rfl
  have g2 := hg 2 _ rfl
  have g3 := hg 3 _ rfl
  have g4 := hg 4 _ rfl
  obtain ⟨kd, e0, _, w0⟩ := DataW.trod_int Try.underlying3 g0
  obtain ⟨ii, e1, _, w1⟩ := DataW.trod_int Try.underlying3 g1
  obtain ⟨cc, e2, _, w2⟩ := DataW.trod_int Try.underlying5 g2
  obtain ⟨ll, e3, _, w3⟩ := DataW.trod_int Try.underlying3 g3
  simp [int_wide, byte_cells] at e0 e1 e2 e3
  subst e0 e1 e2 e3
  rcases open_ints Try.underlying23 Try.underlying3 int_wide g4 with ⟨e4, _⟩ | ⟨a, len, cap, zs, e4, _, hl, hm, hz, _, hcell, hwz⟩
  · simp [ints_wide] at e4
    subst e4
    exact ⟨⟨kd, ii, UInt8.ofNat cc.toNat, ll, none, 0, 0, []⟩, by simp only [byte_of _ w2], ⟨i64_of w0, i64_of w1, i64_of w3, rfl, IB.none_, fun _ => ⟨rfl, rfl⟩, fun k hk => (by cases hk)⟩⟩
  · simp [ints_wide] at e4
    subst e4
    have hz' : zs.length = cap := by simpa using hz
    refine ⟨⟨kd, ii, UInt8.ofNat cc.toNat, ll, some a, len, cap, zs.take len⟩, by simp only [byte_of _ w2], ⟨i64_of w0, i64_of w1, i64_of w3, by simp; omega, ⟨by simp, fun hp => ⟨a, rfl, ?_, fun j u hu => ?_⟩⟩, fun h => (by cases h), fun k hk => i64_of (hwz k (List.mem_of_mem_take hk))⟩⟩
    · have := block_lt_of_cell (hcell 0 (by simp at hp; omega))
      rwa [block_of_add] at this
    · have hj : j < len := by
        rcases Nat.lt_or_ge j len with h | h
        · exact h
        · rw [List.getElem?_eq_none (by simp; omega)] at hu; cases hu
      have hjz : j < zs.length := by omega
      rw [hcell j hjz, ← hu]
      simp [List.getElem?_take, hj, List.getElem?_eq_getElem hjz]
theorem open_acts {v : Option Addr} {len cap : Nat} {d : DataW H} {p : List MemPlace} (h : DataW.Trod enc Try.prog w base (fun _ => true) held 22 (.slice v len cap) d p) :
    ∃ l, Acts w w.heap.size v len l := by
  obtain ⟨fuel, hf⟩ := h
  rcases Deep.open_slice Try.underlying22 hf with ⟨hcs, _⟩ | ⟨a, l, c, m, n, D, Pl, hcs, _, hl, hm, hmm, _, hx⟩
  · simp [Value.cells] at hcs
    obtain ⟨rfl, rfl, rfl⟩ := hcs
    exact ⟨[], rfl, fun x hx => (by cases hx), fun h => absurd h (by omega)⟩
  · simp [Value.cells] at hcs
    obtain ⟨rfl, rfl, rfl⟩ := hcs
    have hmc : len ≤ m := by simp at hmm; omega
    have each : ∀ i, i < len → ∃ y : ActV, ActAt w (a.add (i * 5)) y ∧ ActOk w w.heap.size y := by
      intro i hi
      obtain ⟨cs', h1, h2⟩ := hx i (by omega)
      obtain ⟨y, hy, ho⟩ := open_act h2
      rw [act_wide] at h1
      obtain ⟨_, hlen, hcell⟩ := World.cells?_some h1
      subst hy
      exact ⟨y, ⟨by have h0 := hcell 0 (by omega); rw [add_of_add] at h0; simpa using h0, hcell 1 (by omega), hcell 2 (by omega), hcell 3 (by omega), hcell 4 (by omega)⟩, ho⟩
    obtain ⟨Y, hY⟩ := Deep.choose_lt (α := ActV) (p := fun i y => ActAt w (a.add (i * 5)) y ∧ ActOk w w.heap.size y) each
    refine ⟨(List.range len).map Y, by simp, fun x hx => ?_, fun h0 => ⟨a, rfl, ?_, fun j hj => ?_⟩⟩
    · obtain ⟨i, hi, rfl⟩ := List.mem_map.1 hx
      exact (hY i (List.mem_range.1 hi)).2
    · have := block_lt_of_cell (hY 0 h0).1.c0
      rwa [block_of_add] at this
    · simp at hj ⊢
      exact (hY j hj).1
end
end Go.Proofs.Ytmkbahhnjobglaa
