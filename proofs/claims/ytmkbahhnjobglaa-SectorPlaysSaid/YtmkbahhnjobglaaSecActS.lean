/-
  AN ARGUMENT []Act of a size that a machine has: no Keep is longer than an append takes.
-/
import Derived.Test.YtmkbahhnjobglaaSecAct
import Derived.SizedLaws
namespace Go.Proofs.Ytmkbahhnjobglaa
open Go.ChangeShapes Go.WideShapes Go.RowKit
set_option linter.unusedSimpArgs false
section
variable {H : Type} {enc : TypeId × Value → H} {w : World} {base : Nat} {held : Bool}
theorem int_bytes8 : Try.prog.bytesOf 3 = 8 := by kernel_rfl
theorem open_actS {fuel : Nat} {cs : List Value} {x : DataW H × List MemPlace} (h : DataW.trod enc Try.prog w base (fun _ => true) held fuel 33 cs = some x) (hw : ∀ v ∈ x.1.weights Try.prog 33, v ≤ reachBytes) :
    ∃ y : ActV, (cs = [.int .i64 y.kind, .int .i64 y.i, .int .u8 (y.c.toNat : Int), .int .i64 y.long, .slice y.ka y.kn y.kc] ∧ ActOk w w.heap.size y) ∧ y.kn ≤ 17592186043904 := by
  obtain ⟨y, hy, ho⟩ := open_act h
  refine ⟨y, ⟨hy, ho⟩, ?_⟩
  obtain ⟨xs, n, _, hx, hsz, hlen, hg⟩ := DataW.trod_struct Try.underlying33 h
  obtain ⟨x0, x1, x2, x3, x4, rfl⟩ := five_of xs hlen
  have g4 := hg 4 _ rfl
  subst hy
  have g4' : DataW.trod enc Try.prog w base (fun _ => true) held n 23 [.slice y.ka y.kn y.kc] = some x4 := g4
  rcases open_ints Try.underlying23 Try.underlying3 int_wide g4' with ⟨e4, _⟩ | ⟨a, len, cap, zs, e4, _, hl, hm, hz, hx4, hcell, hwz⟩
  · injection e4 with e4
    injection e4 with _ e5 _
    omega
  · injection e4 with e4
    injection e4 with _ e5 e6
    have hz' : zs.length = cap := by simpa using hz
    have hmem : (y.kn + (cap - y.kn)) * Try.prog.bytesOf 3 ∈ x.1.weights Try.prog 33 := by
      rw [hx]
      unfold DataW.weights
      rw [Try.underlying33]
      refine DataW.weights_mem_each (j := 4) (t := 23) (d := x4.1) rfl rfl _ ?_
      rw [hx4]
      unfold DataW.weights
      rw [Try.underlying23]
      simp only [lits, List.length_map, List.length_take, List.length_drop, hz', List.mem_cons]
      left
      rw [← e5, Nat.min_eq_left (by omega)]
    have h1 := hw _ hmem
    rw [int_bytes8] at h1
    unfold reachBytes at h1
    omega
theorem weights_all_mem {P : Program} {e : TypeId} : ∀ (l : List (DataW H)) (d : DataW H), d ∈ l → ∀ v ∈ d.weights P e, v ∈ DataW.weightsAll P e l
  | d0 :: r, d, hd, v, hv => by
    rw [DataW.weightsAll]
    rcases List.mem_cons.1 hd with rfl | hd
    · exact List.mem_append_left _ hv
    · exact List.mem_append_right _ (weights_all_mem r d hd v hv)
theorem open_actsS {v : Option Addr} {len cap : Nat} {d : DataW H} {p : List MemPlace} (h : DataW.Trod enc Try.prog w base (fun _ => true) held 22 (.slice v len cap) d p) (hw : ∀ v ∈ d.weights Try.prog 22, v ≤ reachBytes) :
    ∃ l, Acts w w.heap.size v len l ∧ ∀ x ∈ l, x.kn ≤ 17592186043904 := by
  obtain ⟨fuel, hf⟩ := h
  rcases Deep.open_slice Try.underlying22 hf with ⟨hcs, _⟩ | ⟨a, l, c, m, n, D, Pl, hcs, _, hl, hm, hmm, hd, hx⟩
  · simp [Value.cells] at hcs
    obtain ⟨rfl, rfl, rfl⟩ := hcs
    exact ⟨[], ⟨rfl, fun x hx => (by cases hx), fun h => absurd h (by omega)⟩, fun x hx => (by cases hx)⟩
  · simp [Value.cells] at hcs
    obtain ⟨rfl, rfl, rfl⟩ := hcs
    have hmc : len ≤ m := by simp at hmm; omega
    have hdd := (Prod.mk.inj hd).1
    have each : ∀ i, i < len → ∃ y : ActV, ActAt w (a.add (i * 5)) y ∧ ActOk w w.heap.size y ∧ y.kn ≤ 17592186043904 := by
      intro i hi
      obtain ⟨cs', h1, h2⟩ := hx i (by omega)
      have hwi : ∀ v ∈ (D i, Pl i).1.weights Try.prog 33, v ≤ reachBytes := fun v hv => by
        refine hw v ?_
        rw [hdd]
        unfold DataW.weights
        rw [Try.underlying22]
        refine List.mem_cons_of_mem _ (List.mem_append_left _ (weights_all_mem _ (D i) (List.mem_map.2 ⟨i, List.mem_range.2 hi, rfl⟩) v hv))
      obtain ⟨y, ⟨hy, ho⟩, hk⟩ := open_actS h2 hwi
      rw [act_wide] at h1
      obtain ⟨_, hlen, hcell⟩ := World.cells?_some h1
      subst hy
      exact ⟨y, ⟨by have h0 := hcell 0 (by omega); rw [add_of_add] at h0; simpa using h0, hcell 1 (by omega), hcell 2 (by omega), hcell 3 (by omega), hcell 4 (by omega)⟩, ho, hk⟩
    obtain ⟨Y, hY⟩ := Deep.choose_lt (α := ActV) (p := fun i y => ActAt w (a.add (i * 5)) y ∧ ActOk w w.heap.size y ∧ y.kn ≤ 17592186043904) each
    refine ⟨(List.range len).map Y, ⟨by simp, fun x hx => ?_, fun h0 => ⟨a, rfl, ?_, fun j hj => ?_⟩⟩, fun x hx => ?_⟩
    · obtain ⟨i, hi, rfl⟩ := List.mem_map.1 hx
      exact (hY i (List.mem_range.1 hi)).2.1
    · have := block_lt_of_cell (hY 0 h0).1.c0
      rwa [block_of_add] at this
    · simp at hj ⊢
      exact (hY j hj).1
    · obtain ⟨i, hi, rfl⟩ := List.mem_map.1 hx
      exact (hY i (List.mem_range.1 hi)).2.2
end
end Go.Proofs.Ytmkbahhnjobglaa
