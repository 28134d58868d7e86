/-
  THE WALK of the program's End.
-/
import Derived.Test.YtgojdkjneggmjaaRec6
import Derived.Lib.SlBytesConst
namespace Go.Proofs.Ytgojdkjneggmjaa
open Go.RowKit FieldM
set_option linter.unusedSimpArgs false
/-- a new writer on a constant's bytes -/
theorem mark_wr (w : World) (m : List UInt8) (cs : Array Value) (n : Nat) (hn : m.length = n) (hcs : cs = (m.map bv).toArray) :
    Wr ((w.alloc (.cells cs 5 (n, n + 1))).alloc (.cells #[.slice (some ⟨w.heap.size, 0, none⟩) n n] 51)) w.heap.size (w.heap.size + 1) m ∧
    Chg NoB w ((w.alloc (.cells cs 5 (n, n + 1))).alloc (.cells #[.slice (some ⟨w.heap.size, 0, none⟩) n n] 51)) := by
  subst hn hcs
  refine ⟨⟨_, _, _, ?_, .inr ⟨w.heap.size, rfl, Nat.le_refl _, ?_⟩⟩, ((Chg.refl _ _).alloc _).alloc _⟩
  · have := Blk.new (w.alloc (.cells (m.map bv).toArray 5 (m.length, m.length + 1))) 51 #[.slice (some ⟨w.heap.size, 0, none⟩) m.length m.length]
    simpa using this
  · rw [heap_alloc_old _ _ (by simp)]
    exact heap_alloc_new w _
set_option maxRecDepth 100000 in
set_option maxHeartbeats 4000000 in
theorem end_any (c s a : Int) (w : World) :
    Calls Try.prog 17 #[.int .i64 c, .int .i64 s, .int .i64 a] w fun e w' => ((EndOk c s a ∧ ∃ v, e = .returned (.tuple #[v, .int .i64 0]) ∧ OwnB w' w.heap.size v (endL c s a)) ∨ (¬ EndOk c s a ∧ e = .returned (.tuple #[.slice none 0 0, .int .i64 2]))) ∧ Chg NoB w w' := by
  have hcc : Chg NoB w w := Chg.refl _ _
  by_cases hok : EndOk c s a
  · have hok' := hok
    unfold EndOk at hok'
    obtain ⟨⟨h1, h2⟩, ⟨h3, h4⟩, ⟨h5, h6⟩⟩ := hok'
    have HOK := Lib.hid hok
    clear hok
    have kc := fun (w : World) (C : Array Value) (n c : Nat) => Lib.run_convert_bytes_const (P := Try.prog) w 24 5 C n c Try.underlying24 Try.underlying5
    go_enter Try.func17, Try.ntmps17
    go_wp2_with (refine (number_any _ _).mono ?_; rintro e w1 ⟨rfl, rfl⟩)
    obtain ⟨w, hww⟩ : ∃ w, w = w1 := ⟨_, rfl⟩
    subst hww
    obtain ⟨hw0, hc0⟩ := mark_wr w [80, 75, 5, 6] #[.int .u8 80, .int .u8 75, .int .u8 5, .int .u8 6] 4 rfl rfl
    have hz1 : ∀ z ∈ [0, 0, c, c], 0 ≤ z ∧ z < (256 : Int) ^ 2 := by have hok : EndOk c s a := HOK.out; unfold EndOk at hok; intro z hz; simp at hz; omega
    have hz2 : ∀ z ∈ [s, a], 0 ≤ z ∧ z < (256 : Int) ^ 4 := by have hok : EndOk c s a := HOK.out; unfold EndOk at hok; intro z hz; simp at hz; omega
    have hz3 : ∀ z ∈ [(0 : Int)], 0 ≤ z ∧ z < (256 : Int) ^ 2 := by intro z hz; simp at hz; omega
    refine (twos_any (w.heap.size + 1) w.heap.size [80, 75, 5, 6] (w.heap.size + 2) [0, 0, c, c] 4 4 rfl #[.int .i64 0, .int .i64 0, .int .i64 c, .int .i64 c] rfl _ (hw0.no ((Chg.refl NoB _).alloc _)) (by have := Blk.new ((w.alloc (.cells #[.int .u8 80, .int .u8 75, .int .u8 5, .int .u8 6] 5 (4, 5))).alloc (.cells #[.slice (some ⟨w.heap.size, 0, none⟩) 4 4] 51)) 3 #[.int .i64 0, .int .i64 0, .int .i64 c, .int .i64 c]; simpa using this) hz1 (by simp; omega) (by simp)).mono ?_
    rintro e w1 ⟨rfl, hw1, hc1⟩
    have hcc : Chg NoB w w1 := (hc0.alloc _).trans hc1 (fun i hi hg => by unfold OneB at hg; omega)
    have hwf := Lib.hid hw0
    clear hw0 hc0 hc1 hz1
    have hb1 : w.heap.size ≤ w1.heap.size := hcc.size
    obtain ⟨W0, hW0⟩ : ∃ W0 : World, W0 = w := ⟨_, rfl⟩
    have hBB : Hid (w.heap.size ≤ w1.heap.size) := hb1
    clear hb1
    go_wp2_with fail
    refine (fours_any (w.heap.size + 1) w.heap.size _ w1.heap.size [s, a] 2 2 rfl #[.int .i64 s, .int .i64 a] rfl _ (hw1.no ((Chg.refl NoB _).alloc _)) (Blk.new w1 _ _) hz2 (by have : w.heap.size ≤ w1.heap.size := hBB; simp; omega) (by simp [lay_len])).mono ?_
    rintro e w2 ⟨rfl, hw2, hc2⟩
    have hcc := (hcc.alloc _).trans hc2 (fun i hi hg => by unfold OneB at hg; omega)
    clear hw1 hc2 hBB hz2
    have hBB : Hid (w.heap.size ≤ w2.heap.size) := hcc.size
    go_wp2_with fail
    refine (twos_any (w.heap.size + 1) w.heap.size _ w2.heap.size [0] 1 1 rfl #[.int .i64 0] rfl _ (hw2.no ((Chg.refl NoB _).alloc _)) (Blk.new w2 _ _) hz3 (by have : w.heap.size ≤ w2.heap.size := hBB; simp; omega) (by simp [lay_len])).mono ?_
    rintro e w3 ⟨rfl, hw3, hc3⟩
    have hcc := (hcc.alloc _).trans hc3 (fun i hi hg => by unfold OneB at hg; omega)
    clear hw2 hc3 hBB hz3
    obtain ⟨A, n, k, hb, ho⟩ := hw3
    have c0 := hb.cell 0
    go_wp2_with fail
    go_ret2
    exact ⟨.inl ⟨HOK.out, _, rfl, ho⟩, hcc⟩
  · have HOK := Lib.hid hok
    clear hok
    go_enter Try.func17, Try.ntmps17
    go_wp2_with (refine (number_any _ _).mono ?_; rintro e w1 ⟨rfl, rfl⟩)
    all_goals first
      | (go_ret2; exact ⟨.inr ⟨HOK.out, rfl⟩, hcc⟩)
      | (exfalso; have hok := HOK.out; unfold EndOk at hok; omega)
      | (exfalso; have hok := HOK.out; unfold EndOk at hok; simp at *; omega)
      | go_goals
end Go.Proofs.Ytgojdkjneggmjaa
