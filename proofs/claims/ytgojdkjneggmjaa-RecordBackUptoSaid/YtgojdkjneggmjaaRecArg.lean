/-
  An argument that is a record, by value: its six fields written out.
-/
import Derived.Test.YtgojdkjneggmjaaRec22
import Derived.Deep.Fields
import Derived.ChangeArms
import Derived.WideShapes
namespace Go.Proofs.Ytgojdkjneggmjaa
open Go.ChangeShapes Go.WideShapes Go.RowKit
theorem rec_wide : Try.prog.cellsOf 23 = 6 := by kernel_rfl
theorem str_wide : Try.prog.cellsOf 9 = 1 := by kernel_rfl
theorem int_wide : Try.prog.cellsOf 3 = 1 := by kernel_rfl
theorem six_of {α : Type} : ∀ (l : List α), l.length = 6 → ∃ a b c d e f, l = [a, b, c, d, e, f]
  | [a, b, c, d, e, f], _ => ⟨a, b, c, d, e, f, rfl⟩
section
variable {H : Type} {enc : TypeId × Value → H} {w : World} {base : Nat} {spare : Nat → Bool} {held : Bool}
theorem open_rec {r : Reach} {b0 : Nat} {v : Value} {d : DataW H} {p : List MemPlace} (hv : Value.okWide Try.prog w r b0 23 v) (h : DataW.Trod enc Try.prog w base spare held 23 v d p) :
    ∃ (nm : List UInt8) (me su pa si at_ : Int), v = .agg (Rec.mk nm me su pa si at_).cells ∧ nm.length ≤ maxLen := by
  obtain ⟨⟨cs⟩, rfl, hsz⟩ := okWide_struct Try.underlying23 hv
  rw [rec_wide] at hsz
  obtain ⟨fuel, hf⟩ := h
  obtain ⟨xs, n, _, _, _, hlen, hg⟩ := DataW.trod_struct Try.underlying23 hf
  obtain ⟨x0, x1, x2, x3, x4, x5, rfl⟩ := six_of xs hlen
  obtain ⟨c0, c1, c2, c3, c4, c5, rfl⟩ := six_of cs hsz
  have g0 := hg 0 _ rfl
  have g1 := hg 1 _ rfl
  have g2 := hg 2 _ rfl
  have g3 := hg 3 _ rfl
  have g4 := hg 4 _ rfl
  have g5 := hg 5 _ rfl
  obtain ⟨⟨⟨nm⟩⟩, e0, _, hn⟩ := DataW.trod_string Try.underlying9 g0
  obtain ⟨me, e1, _⟩ := DataW.trod_int Try.underlying3 g1
  obtain ⟨su, e2, _⟩ := DataW.trod_int Try.underlying3 g2
  obtain ⟨pa, e3, _⟩ := DataW.trod_int Try.underlying3 g3
  obtain ⟨si, e4, _⟩ := DataW.trod_int Try.underlying3 g4
  obtain ⟨at_, e5, _⟩ := DataW.trod_int Try.underlying3 g5
  simp [Value.cells, str_wide] at e0
  simp [Value.cells, int_wide] at e1 e2 e3 e4 e5
  subst e0 e1 e2 e3 e4 e5
  exact ⟨nm, me, su, pa, si, at_, rfl, hn⟩
end
end Go.Proofs.Ytgojdkjneggmjaa
