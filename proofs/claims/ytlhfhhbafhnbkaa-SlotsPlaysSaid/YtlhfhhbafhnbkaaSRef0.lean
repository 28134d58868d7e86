/-
  WHAT THE REFERENCE'S SIDE BORROWS (from the sector chapter's texts of ours).
-/
import Derived.Test.YtlhfhhbafhnbkaaSlt10
namespace Go.Proofs.Ytlhfhhbafhnbkaa
open Go.RowKit
set_option linter.unusedSimpArgs false
set_option linter.unusedVariables false
def I64r (x : Int) : Prop := -9223372036854775808 ≤ x ∧ x ≤ 9223372036854775807
theorem str_info : (Try.prog.info? 9).map (fun i => (i.zero, i.size, i.bytes)) = some (some (.string ⟨#[]⟩), 1, 16) := by kernel_rfl
theorem str_full : ∃ i, Try.prog.info? 9 = some i ∧ i.zero = some (.string ⟨#[]⟩) ∧ i.size = 1 ∧ i.bytes = 16 := by
  have h := str_info
  cases hi : Try.prog.info? 9 with
  | none => rw [hi] at h; cases h
  | some i => rw [hi] at h; simp at h; exact ⟨i, rfl, h.1, h.2.1, h.2.2⟩
/-- a string value of bytes -/
def strV (l : List UInt8) : Value := .string ⟨l.toArray⟩
/-- the sectors, as strings -/
def secs (f : Int → List UInt8) (n : Nat) : List Value := (List.range n).map fun (i : Nat) => strV (f (i : Int))
theorem secs_succ (f : Int → List UInt8) (n : Nat) : secs f (n + 1) = secs f n ++ [strV (f (n : Int))] := by simp [secs, List.range_succ]
theorem own_cell {w : World} {base n c : Nat} {t : TypeId} {A : Option Addr} {xs : List Value} (h : w.ownsRow base t 1 (.slice A n c) n xs) {j : Nat} (hj : j < n) : ∃ g, A = some ⟨g, 0, none⟩ ∧ w.cell? ⟨g, j, none⟩ = xs[j]? := by
  rcases h.2 with ⟨_, h0⟩ | ⟨g, cap, cur, hv, hb, hg, hnc, hm, hs, ht⟩
  · omega
  · injection hv with h1 h2 h3
    refine ⟨g, h1, ?_⟩
    rw [(show Blk w g t cur from hg).cell j, ← ht, List.getElem?_take, if_pos (by omega)]; simp
theorem secs_at (f : Int → List UInt8) {n j : Nat} (hj : j < n) : (secs f n)[j]? = some (.string ⟨(f (j : Int)).toArray⟩) := by
  simp [secs, hj, strV]
theorem keepRow {F F' : Nat → Prop} {w w' : World} {base n size : Nat} {t : TypeId} {v : Value} {xs : List Value} (hc : Chg F w w') (hg : ∀ i, F' i → F i ∨ w.heap.size ≤ i) (h : w.ownsRow base t size v n xs ∧ ∀ j, v.ownBlock = some j → ¬ F j) : w'.ownsRow base t size v n xs ∧ ∀ j, v.ownBlock = some j → ¬ F' j :=
  ⟨ownsRow_chg h.1 hc h.2, fun j e hf => (hg j hf).elim (h.2 j e) (fun h2 => by have := (h.1.lt j e).2; omega)⟩
theorem keepRowNo {F : Nat → Prop} {w w' : World} {base n size : Nat} {t : TypeId} {v : Value} {xs : List Value} (hc : Chg NoB w w') (h : w.ownsRow base t size v n xs ∧ ∀ j, v.ownBlock = some j → ¬ F j) : w'.ownsRow base t size v n xs ∧ ∀ j, v.ownBlock = some j → ¬ F j :=
  ⟨ownsRow_chg h.1 hc (fun _ _ h => h), h.2⟩
end Go.Proofs.Ytlhfhhbafhnbkaa
