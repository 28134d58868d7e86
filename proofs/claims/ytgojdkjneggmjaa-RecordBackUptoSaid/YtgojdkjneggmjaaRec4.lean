/-
  THE WALKS of Check, the program's and the reference's.
-/
import Derived.Test.YtgojdkjneggmjaaRec3
namespace Go.Proofs.Ytgojdkjneggmjaa
open Go.RowKit FieldM
set_option linter.unusedSimpArgs false
/-- the numbers of a record are numbers of four bytes -/
def inR (z : Int) : Prop := 0 ≤ z ∧ z ≤ 4294967295
theorem Rec.ok_iff (r : Rec) : r.Ok ↔ (1 ≤ (r.name.length : Int) ∧ (r.name.length : Int) ≤ 65535) ∧ (r.method = 0 ∨ r.method = 8) ∧ (0 ≤ r.sum ∧ r.sum ≤ 4294967295) ∧ (0 ≤ r.packed ∧ r.packed ≤ 4294967295) ∧ (0 ≤ r.size ∧ r.size ≤ 4294967295) ∧ (0 ≤ r.at_ ∧ r.at_ ≤ 4294967295) := by
  constructor
  · intro h; have h1 := h.name1; have h2 := h.name2; exact ⟨⟨by omega, by omega⟩, h.method, h.sum, h.packed, h.size, h.at_⟩
  · rintro ⟨⟨h1, h2⟩, h3, h4, h5, h6, h7⟩; exact ⟨by omega, by omega, h3, h4, h5, h6, h7⟩
set_option maxRecDepth 100000 in
set_option maxHeartbeats 4000000 in
theorem rcheck_any (r : Rec) (w : World) :
    Calls Try.prog 15 #[.agg r.cells] w fun e w' => ((r.Ok ∧ e = .returned (.int .i64 0)) ∨ (¬ r.Ok ∧ e = .returned (.int .i64 2))) ∧ Chg NoB w w' := by
  obtain ⟨s, hs⟩ : ∃ s : ByteArray, s = ⟨r.name.toArray⟩ := ⟨_, rfl⟩
  obtain ⟨N, hN⟩ : ∃ N : Int, (s.size : Int) = N := ⟨_, rfl⟩
  have hNN : (r.name.length : Int) = N := by rw [← hN, hs]; simp [ByteArray.size]
  rw [r.ok_iff, hNN]
  obtain ⟨nm, me, su, pa, si, at_⟩ := r
  simp only at hs hNN ⊢
  clear hNN
  simp only [Rec.cells]
  rw [← hs]
  clear hs nm
  have hc : ∀ o, Chg NoB w (w.alloc o) := fun o => (Chg.refl _ _).alloc o
  go_enter Try.func15, Try.ntmps15
  go_wp2_with (refine (is_any _ _).mono ?_; rintro e w1 ⟨rfl, rfl⟩)
  all_goals go_ret
  all_goals first
    | (refine ⟨.inr ⟨?_, rfl⟩, hc _⟩; intro hx; first | omega | (simp at *; omega))
    | (refine ⟨.inl ⟨?_, rfl⟩, hc _⟩; first | omega | (simp at *; omega))
end Go.Proofs.Ytgojdkjneggmjaa
